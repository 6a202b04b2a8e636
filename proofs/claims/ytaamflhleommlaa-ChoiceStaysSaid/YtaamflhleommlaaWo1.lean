/- The walk of gens.Without's closure. -/
import Derived.Test.YtaamflhleommlaaGFind
namespace Go.Proofs.Ytaamflhleommlaa
set_option linter.unusedVariables false
set_option linter.unusedSimpArgs false
open Go.RowKit Go.Shelf

set_option maxHeartbeats 4000000 in
theorem wo1_nil (q : Nat) (x : Be) (w : World) (hq : w.cell? ⟨q, 0, none⟩ = some .nilFunc) :
    Calls Try.prog 48 #[.agg #[.int .i64 x.id, .int .u32 (x.addr : Int), .int .i64 x.weight], .pointer (some ⟨q, 0, none⟩)] w fun e w' => e = .returned (.bool false) ∧ Below w.heap.size w w' := by
  have hlt := World.block_lt_of_cell? w _ hq
  have hq2 : (w.alloc (.cells #[.int .i64 x.id, .int .u32 (x.addr : Int), .int .i64 x.weight] 27)).cell? ⟨q, 0, none⟩ = some .nilFunc := by
    rw [World.cell?_alloc_lt _ _ _ hlt]; exact hq
  obtain ⟨xi, xa, xw⟩ := x
  dsimp only at hq2 ⊢
  have bn : ∀ w, (binOp .neq 50 .nilFunc .nilFunc).run Try.prog w = .ok (.bool false) w := fun _ => by kernel_rfl
  go_enter Try.func48, Try.ntmps48
  go_wp2_with fail
  go_ret
  exact ⟨rfl, (Below.refl _ _).alloc (Nat.le_refl _) _⟩

set_option maxHeartbeats 4000000 in
theorem wo1_fun (q g : Nat) (lb : Array Value) (o : Int → Bool) (eg : ∀ args w, (callFunc g args).run Try.prog w = .ok (.enter g args) w) (x : Be) (w : World) (hq : w.cell? ⟨q, 0, none⟩ = some (.func (.func g) #[] lb))
    (hp : ∀ (W : World), Below w.heap.size w W → Calls Try.prog g (#[.int .i64 x.id] ++ lb) W fun e w' => e = .returned (.bool (o x.id)) ∧ Below w.heap.size w w') :
    Calls Try.prog 48 #[.agg #[.int .i64 x.id, .int .u32 (x.addr : Int), .int .i64 x.weight], .pointer (some ⟨q, 0, none⟩)] w fun e w' => e = .returned (.bool (o x.id)) ∧ Below w.heap.size w w' := by
  have hlt := World.block_lt_of_cell? w _ hq
  have hq2 : (w.alloc (.cells #[.int .i64 x.id, .int .u32 (x.addr : Int), .int .i64 x.weight] 27)).cell? ⟨q, 0, none⟩ = some (.func (.func g) #[] lb) := by
    rw [World.cell?_alloc_lt _ _ _ hlt]; exact hq
  have hcall := hp _ ((Below.refl w.heap.size w).alloc (Nat.le_refl _) (.cells #[.int .i64 x.id, .int .u32 (x.addr : Int), .int .i64 x.weight] 27))
  obtain ⟨xi, xa, xw⟩ := x
  dsimp only at hq2 hcall ⊢
  have bn : ∀ w, (binOp .neq 50 (.func (.func g) #[] lb) .nilFunc).run Try.prog w = .ok (.bool true) w := fun _ => by kernel_rfl
  clear hp
  go_enter Try.func48, Try.ntmps48
  go_wp2_with (go_at_fn g; refine hcall.mono ?_; rintro e w' ⟨rfl, hb'⟩)
  go_ret
  exact ⟨rfl, hb'⟩
end Go.Proofs.Ytaamflhleommlaa
