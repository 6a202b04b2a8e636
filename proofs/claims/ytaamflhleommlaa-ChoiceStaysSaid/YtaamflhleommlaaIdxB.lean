/- The walk of slices.IndexFunc at backends, with whatever closure. -/
import Derived.Test.YtaamflhleommlaaFindB
import Derived.Shelf.Abstract
namespace Go.Proofs.Ytaamflhleommlaa
set_option linter.unusedVariables false
set_option linter.unusedSimpArgs false
open Go.RowKit Go.Shelf Go.Lib

def idxBe (p : Be → Bool) (l : List Be) : Int :=
  match l.findIdx? p with
  | some i => (i : Int)
  | none => -1
theorem idxBe_yes {p : Be → Bool} {l : List Be} {k : Nat} (hk : k < l.length) (h : p l[k] = true) (hall : ∀ j (hj : j < l.length), j < k → p l[j] = false) : idxBe p l = (k : Int) := by
  have : l.findIdx? p = some k := by
    rw [List.findIdx?_eq_some_iff_getElem]
    exact ⟨hk, h, fun j hj => by simp [hall j (by omega) hj]⟩
  unfold idxBe
  rw [this]
theorem idxBe_no {p : Be → Bool} {l : List Be} (hall : ∀ j (hj : j < l.length), p l[j] = false) : idxBe p l = -1 := by
  have : l.findIdx? p = none := by
    rw [List.findIdx?_eq_none_iff]
    intro b hb
    obtain ⟨j, hj, rfl⟩ := List.getElem_of_mem hb
    exact hall j hj
  unfold idxBe
  rw [this]

set_option maxHeartbeats 4000000 in
set_option maxRecDepth 100000 in
theorem idx_any (g : Nat) (lb : Array Value) (p : Be → Bool) (eg : ∀ args w, (callFunc g args).run Try.prog w = .ok (.enter g args) w) (A : Option Addr) (n c B : Nat) (l : List Be) (w : World) (hr : Reads w B 3 A n (bks l)) (hB : B ≤ w.heap.size) (hn : n ≤ 46912496118442)
    (hp : ∀ (W : World) (x : Be), Below w.heap.size w W → Calls Try.prog g (#[.agg #[.int .i64 x.id, .int .u32 (x.addr : Int), .int .i64 x.weight]] ++ lb) W fun e w' => e = .returned (.bool (p x)) ∧ Below w.heap.size w w') :
    Calls Try.prog 50 #[.slice A n c, .func (.func g) #[] lb] w fun e w' => e = .returned (.int .i64 (idxBe p l)) ∧ Below w.heap.size w w' := by
  have hlen := hr.be_length
  go_enter Try.func50, Try.ntmps50
  go_wp2_with fail
  go_loopw [8] (fun i wr => ∃ k : Nat, k ≤ n ∧ i = .int .i64 (k : Int) ∧ Hid (∀ j (hj : j < l.length), j < k → p l[j] = false) ∧ Below w.heap.size w wr) (fun i _ => n - (intOf i).toNat)
  case atStart => exact ⟨0, by omega, rfl, (fun j _ h => by omega), Below.refl _ _⟩
  case round =>
    obtain ⟨k, hk, rfl, hall, hbr⟩ := hrel
    by_cases hkn : k < n
    · obtain ⟨b, off, hl, rfl, hc0, hc1, hc2⟩ := (hr.below (hbr.mono hB)).be hkn
      have HYES : Hid (p l[k] = true → idxBe p l = (k : Int)) := fun h => idxBe_yes hl h hall.out
      have HNO : Hid (p l[k] = false → ∀ j (hj : j < l.length), j < k + 1 → p l[j] = false) := by
        intro h j hj hjk
        by_cases e : j = k
        · subst e; exact h
        · exact hall.out j hj (by omega)
      have hcall := hp wr l[k] hbr
      obtain ⟨v, hv⟩ : ∃ v, v = p l[k] := ⟨_, rfl⟩
      rw [← hv] at HYES HNO hcall
      clear hv hp
      generalize l[k].id = x at *
      generalize l[k].weight = wt at *
      generalize l[k].addr = ad at *
      cases v with
      | true =>
        have HR := Lib.hid (HYES.out rfl)
        clear HYES HNO hall
        go_wp2_with (go_at_fn g; refine hcall.mono ?_; rintro e w' ⟨rfl, hb'⟩)
        go_ret
        exact ⟨by rw [HR.out]; rfl, hb'⟩
      | false =>
        have HN := Lib.hid (HNO.out rfl)
        clear HYES HNO hall
        go_wp2_with (go_at_fn g; refine hcall.mono ?_; rintro e w' ⟨rfl, hb'⟩)
        go_roundw
        case rel => exact ⟨k + 1, by omega, by go_num, HN, hb'⟩
        case measure => simp [intOf]; omega
    · have hkk : k = n := by omega
      have HR : Hid (idxBe p l = -1) := idxBe_no (fun j hj => hall.out j hj (by omega))
      subst hkk
      clear hall hkn hk
      go_wp2_with fail
      go_ret
      exact ⟨by rw [HR.out]; rfl, hbr⟩
end Go.Proofs.Ytaamflhleommlaa
