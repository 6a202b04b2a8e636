/- The walk of gens.Without. -/
import Derived.Test.YtaamflhleommlaaDelW
namespace Go.Proofs.Ytaamflhleommlaa
set_option linter.unusedVariables false
set_option linter.unusedSimpArgs false
open Go.RowKit Go.Shelf

set_option maxHeartbeats 4000000 in
set_option maxRecDepth 100000 in
theorem gwo_any (ov : Value) (hov : ov = .nilFunc ∨ ∃ g lb, ov = .func (.func g) #[] lb) (o : Int → Bool) (A : Option Addr) (n c B : Nat) (l : List Be) (w : World) (hr : Reads w B 3 A n (bks l)) (hB : B ≤ w.heap.size) (hn : n ≤ 1000000) (hnil : A = none → c = 0)
    (hp : ∀ (W : World) (x : Be), Below (w.heap.size + 1) (w.alloc (.cells #[ov] 50)) W → Calls Try.prog 48 #[.agg #[.int .i64 x.id, .int .u32 (x.addr : Int), .int .i64 x.weight], .pointer (some ⟨w.heap.size, 0, none⟩)] W fun e w' => e = .returned (.bool (o x.id)) ∧ Below W.heap.size W w') :
    Calls Try.prog 38 #[.slice A n c, ov] w fun e w' => ∃ A' m c', e = .returned (.slice A' m c') ∧ m = (keepBe (fun b => o b.id) l).length ∧ m ≤ c' ∧ Reads w' w'.heap.size 3 A' m (bks (keepBe (fun b => o b.id) l)) ∧ Below w.heap.size w w' := by
  have eg : ∀ args w, (callFunc 48 args).run Try.prog w = .ok (.enter 48 args) w := enters_of Try.func48 (by kernel_rfl) rfl
  have hb0 := (Below.refl w.heap.size w).alloc (Nat.le_refl _) (.cells #[ov] 50)
  have hr0 := hr.alloc hB (.cells #[ov] 50)
  have hs0 : (w.alloc (.cells #[ov] 50)).heap.size = w.heap.size + 1 := by simp
  have CC := Lib.hid (clonebe_any A n c B l _ hr0 (Nat.le_trans hB hb0.size) (by omega) hnil)
  rw [hs0] at CC
  have HP := Lib.hid hp
  have HB := Lib.hid hb0
  clear hp hr0 hb0
  rcases hov with rfl | ⟨g, lb, rfl⟩
  · go_enter Try.func38, Try.ntmps38
    go_wp2_with fail
    refine CC.out.mono ?_
    rintro e w1 ⟨A1, c1, rfl, hown1, hb1⟩
    have hsz1 : w.heap.size + 1 ≤ w1.heap.size := by have := hb1.size; rw [hs0] at this; exact this
    have CD := Lib.hid (del_any 48 #[.pointer (some ⟨w.heap.size, 0, none⟩)] (fun b => o b.id) eg A1 n c1 _ l w1 hown1 hsz1 hn (fun W x hW => HP.out W x (hb1.trans hW)))
    clear eg hown1 CC
    go_wp2_with fail
    refine CD.out.mono ?_
    rintro e w2 ⟨A2, m, c2, rfl, hm0, hmc0, hr2, hb2⟩
    have hm := Lib.hid (And.intro hm0 hmc0)
    clear hm0 hmc0
    go_wp2_with fail
    go_ret
    exact ⟨A2, m, c2, rfl, hm.out.1, hm.out.2, hr2, HB.out.trans ((hb1.trans hb2).mono (by omega))⟩
  · go_enter Try.func38, Try.ntmps38
    go_wp2_with fail
    refine CC.out.mono ?_
    rintro e w1 ⟨A1, c1, rfl, hown1, hb1⟩
    have hsz1 : w.heap.size + 1 ≤ w1.heap.size := by have := hb1.size; rw [hs0] at this; exact this
    have CD := Lib.hid (del_any 48 #[.pointer (some ⟨w.heap.size, 0, none⟩)] (fun b => o b.id) eg A1 n c1 _ l w1 hown1 hsz1 hn (fun W x hW => HP.out W x (hb1.trans hW)))
    clear eg hown1 CC
    go_wp2_with fail
    refine CD.out.mono ?_
    rintro e w2 ⟨A2, m, c2, rfl, hm0, hmc0, hr2, hb2⟩
    have hm := Lib.hid (And.intro hm0 hmc0)
    clear hm0 hmc0
    go_wp2_with fail
    go_ret
    exact ⟨A2, m, c2, rfl, hm.out.1, hm.out.2, hr2, HB.out.trans ((hb1.trans hb2).mono (by omega))⟩

theorem gwo_nil (A : Option Addr) (n c B : Nat) (l : List Be) (w : World) (hr : Reads w B 3 A n (bks l)) (hB : B ≤ w.heap.size) (hn : n ≤ 1000000) (hnil : A = none → c = 0) :
    Calls Try.prog 38 #[.slice A n c, .nilFunc] w fun e w' => ∃ A' c', e = .returned (.slice A' n c') ∧ n ≤ c' ∧ Reads w' w'.heap.size 3 A' n (bks l) ∧ Below w.heap.size w w' := by
  have hk : keepBe (fun _ => false) l = l := by unfold keepBe; simp
  have hl := hr.be_length
  refine (gwo_any .nilFunc (.inl rfl) (fun _ => false) A n c B l w hr hB hn hnil (fun W x hW => wo1_nil _ x W ?_)).mono ?_
  · have := ((Blk.new w 50 #[.nilFunc]).below hW (by omega)).cell 0
    simpa using this
  · rintro e w' ⟨A', m, c', rfl, hm, hmc, h1, h2⟩
    rw [hk] at hm h1
    have : m = n := by omega
    subst this
    exact ⟨A', c', rfl, hmc, h1, h2⟩

theorem gwo_fun (g : Nat) (lb : Array Value) (o : Int → Bool) (eg : ∀ args w, (callFunc g args).run Try.prog w = .ok (.enter g args) w) (A : Option Addr) (n c B : Nat) (l : List Be) (w : World) (hr : Reads w B 3 A n (bks l)) (hB : B ≤ w.heap.size) (hn : n ≤ 1000000) (hnil : A = none → c = 0)
    (hp : ∀ (W : World) (id : Int), Below w.heap.size w W → Calls Try.prog g (#[.int .i64 id] ++ lb) W fun e w' => e = .returned (.bool (o id)) ∧ Below W.heap.size W w') :
    Calls Try.prog 38 #[.slice A n c, .func (.func g) #[] lb] w fun e w' => ∃ A' m c', e = .returned (.slice A' m c') ∧ m = (keepBe (fun b => o b.id) l).length ∧ m ≤ c' ∧ Reads w' w'.heap.size 3 A' m (bks (keepBe (fun b => o b.id) l)) ∧ Below w.heap.size w w' := by
  refine gwo_any (.func (.func g) #[] lb) (.inr ⟨g, lb, rfl⟩) o A n c B l w hr hB hn hnil (fun W x hW => wo1_fun _ g lb o eg x W ?_ ?_)
  · have := ((Blk.new w 50 #[.func (.func g) #[] lb]).below hW (by omega)).cell 0
    simpa using this
  · intro W' hW'
    have hb0 := (Below.refl w.heap.size w).alloc (Nat.le_refl _) (.cells #[.func (.func g) #[] lb] 50)
    have hbW := hb0.trans (hW.mono (Nat.le_succ _))
    have := hp W' x.id (hbW.trans (hW'.mono hbW.size))
    exact this.mono fun e w' ⟨h1, h2⟩ => ⟨h1, hW'.trans (h2.mono hW'.size)⟩
end Go.Proofs.Ytaamflhleommlaa
