/- Plain laws of headers: what is built is read back; with one byte changed it is none. -/
import Derived.Test.YtpgbldpppdmdoaaIpLaws
namespace Go.Proofs.Ytpgbldpppdmdoaa
set_option linter.unusedVariables false
set_option linter.unusedSimpArgs false
open Go.RowKit

theorem u64n_cast (z : Nat) (h : z < 65536) : u64n (z : Int) = z := by unfold u64n; omega
theorem hdP_build {T L I F O TT PR src dst : Nat} (S : Int) (hT : T < 256) (hL : L < 65536) (hI : I < 65536) (hF : F < 8) (hO : O < 8192) (hTT : TT < 256) (hPR : PR < 256) (hs : src < 4294967296) (hd : dst < 4294967296) :
    hdP (buildB ⟨5, (T : Int), (L : Int), (I : Int), (F : Int), (O : Int), (TT : Int), (PR : Int), S, src, dst⟩) =
      ⟨(5 : Nat), (T : Int), (L : Int), (I : Int), (F : Int), (O : Int), (TT : Int), (PR : Int), (two' (buildB ⟨5, (T : Int), (L : Int), (I : Int), (F : Int), (O : Int), (TT : Int), (PR : Int), S, src, dst⟩) 10 : Nat), src, dst⟩ := by
  obtain ⟨h, hh⟩ : ∃ h : Hd, h = ⟨5, (T : Int), (L : Int), (I : Int), (F : Int), (O : Int), (TT : Int), (PR : Int), S, src, dst⟩ := ⟨_, rfl⟩
  rw [← hh]
  have e1 : at' (buildB h) 1 = T := by
    unfold buildB at'; rw [headB_list]
    show u64n h.tos % 256 = T
    rw [hh]; show u64n (T : Int) % 256 = T
    rw [u64n_cast T (by omega)]; omega
  have e2 : lenP (buildB h) = L := by
    rw [show lenP (buildB h) = u64n h.len % 65536 from head_len _ _, hh]
    show u64n (L : Int) % 65536 = L
    rw [u64n_cast L hL]; omega
  have e4 : two' (buildB h) 4 = I := by
    unfold buildB two' at'; rw [headB_list]
    show u64n h.id / 256 % 256 * 256 + u64n h.id % 256 = I
    rw [hh]; show u64n (I : Int) / 256 % 256 * 256 + u64n (I : Int) % 256 = I
    rw [u64n_cast I hI]; omega
  have e6 : two' (buildB h) 6 = F * 8192 + O := by
    unfold buildB two' at'; rw [headB_list]
    show flof h / 256 % 256 * 256 + flof h % 256 = _
    have : flof h = F * 8192 + O := by
      rw [hh]; unfold flof
      show ((F : Int) % 8).toNat * 8192 + ((O : Int) % 8192).toNat = _
      omega
    rw [this]; omega
  have e8 : at' (buildB h) 8 = TT := by
    unfold buildB at'; rw [headB_list]
    show u64n h.ttl % 256 = TT
    rw [hh]; show u64n (TT : Int) % 256 = TT
    rw [u64n_cast TT (by omega)]; omega
  have e9 : at' (buildB h) 9 = PR := by
    unfold buildB at'; rw [headB_list]
    show u64n h.proto % 256 = PR
    rw [hh]; show u64n (PR : Int) % 256 = PR
    rw [u64n_cast PR (by omega)]; omega
  have e12 : four' (buildB h) 12 = src := by
    unfold buildB four' two' at'; rw [headB_list]
    show (h.src / 16777216 % 256 * 256 + h.src / 65536 % 256) * 65536 + (h.src / 256 % 256 * 256 + h.src % 256) = src
    rw [hh]; dsimp only; omega
  have e16 : four' (buildB h) 16 = dst := by
    unfold buildB four' two' at'; rw [headB_list]
    show (h.dst / 16777216 % 256 * 256 + h.dst / 65536 % 256) * 65536 + (h.dst / 256 % 256 * 256 + h.dst % 256) = dst
    rw [hh]; dsimp only; omega
  unfold hdP
  rw [show ihlP (buildB h) = 5 from head_ihl _ _, e1, e2, e4, e6, e8, e9, e12, e16]
  congr 1
  · omega
  · omega

theorem wsum_one (D : List Nat) (j y : Nat) (hj : j < D.length) (he : D.length % 2 = 0) : (j % 2 = 0 ∧ wsum (D.set j y) + D[j] * 256 = wsum D + y * 256) ∨ (j % 2 = 1 ∧ wsum (D.set j y) + D[j] = wsum D + y) := by
  have hj2 := Nat.div_add_mod j 2
  rcases Nat.mod_two_eq_zero_or_one j with h0 | h1
  · left
    refine ⟨h0, ?_⟩
    obtain ⟨i, hi⟩ : ∃ i, j = 2 * i := ⟨j / 2, by omega⟩
    subst hi
    have hlt : 2 * i + 1 < D.length := by omega
    have := wsum_set i D y D[2 * i + 1] hlt
    have e : (D.set (2 * i) y).set (2 * i + 1) D[2 * i + 1] = D.set (2 * i) y := by
      apply List.ext_getElem
      · simp
      · intro k h1 h2
        by_cases hk : k = 2 * i + 1
        · subst hk; simp
        · rw [List.getElem_set_ne (by omega)]
    have e2 := congrArg wsum e
    omega
  · right
    refine ⟨h1, ?_⟩
    obtain ⟨i, hi⟩ : ∃ i, j = 2 * i + 1 := ⟨j / 2, by omega⟩
    subst hi
    have := wsum_set i D D[2 * i] y (by omega)
    have e : D.set (2 * i) D[2 * i] = D := List.set_getElem_self _
    have e2 : wsum ((D.set (2 * i) D[2 * i]).set (2 * i + 1) y) = wsum (D.set (2 * i + 1) y) := congrArg (fun z => wsum (z.set (2 * i + 1) y)) e
    omega
theorem net_one {D : List Nat} {j y : Nat} (h0 : netN D = 0) (ha : AllB D) (hj : j < D.length) (he : D.length % 2 = 0) (hy : y < 256) (hne : y ≠ D[j]) : netN (D.set j y) ≠ 0 := by
  have hx := ha _ (List.getElem_mem hj)
  have hw := wsum_one D j y hj he
  generalize D[j] = x at *
  unfold netN at *
  have h1 := fo_le (wsum D)
  have h2 := fo_mod (wsum D)
  have h3 := fo_le (wsum (D.set j y))
  have h4 := fo_mod (wsum (D.set j y))
  generalize wsum (D.set j y) = W' at *
  generalize wsum D = W at *
  generalize fo W = f at *
  generalize fo W' = f' at *
  rcases hw with ⟨_, h⟩ | ⟨_, h⟩ <;> omega
theorem at_set {l : List Nat} {i y j : Nat} (h : i ≠ j) : at' (l.set i y) j = at' l j := by
  unfold at'
  simp [List.getD_eq_getElem?_getD, List.getElem?_set_ne h]
/-- one byte of a header, but the first, changed: none -/
theorem why_one {D r : List Nat} {j y : Nat} (hD : D.length = 20) (h69 : at' D 0 = 69) (h0 : netN D = 0) (ha : AllB D) (hj1 : 1 ≤ j) (hj : j < 20) (hy : y < 256) (hne : y ≠ D[j]'(by omega)) : whyP ((D ++ r).set j y) = 4 := by
  have hs : (D ++ r).set j y = D.set j y ++ r := List.set_append_left _ _ (by omega)
  have hl : (D.set j y).length = 20 := by simp [hD]
  have hat : at' (D.set j y ++ r) 0 = 69 := by rw [at_append (by omega), at_set (by omega), h69]
  have hi : ihlP (D.set j y ++ r) = 5 := by unfold ihlP; rw [hat]
  have hn : netN ((D.set j y ++ r).take (4 * 5)) ≠ 0 := by
    rw [show 4 * 5 = (D.set j y).length from by rw [hl], List.take_left' rfl]
    exact net_one h0 ha (by omega) (by omega) hy hne
  rw [hs]
  unfold whyP
  rw [hi, hat, List.length_append, hl, if_neg (by omega), if_neg (by omega), if_neg (by omega), if_neg (by omega), if_pos hn]
end Go.Proofs.Ytpgbldpppdmdoaa
