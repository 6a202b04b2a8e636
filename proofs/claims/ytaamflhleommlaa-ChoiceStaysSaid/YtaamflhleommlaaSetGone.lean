/- (*choice.Chooser).Set with goitlaw19's gone. -/
import Derived.Test.YtaamflhleommlaaStaysPlain
import Derived.Shelf.Abstract
namespace Go.Proofs.Ytaamflhleommlaa
set_option linter.unusedVariables false
set_option linter.unusedSimpArgs false
open Go.RowKit Go.Shelf

theorem set_gone (p slots : Nat) (l0 : List Be) (t0 : List Int) (made : Int) (A : Option Addr) (n c B gb : Nat) (l : List Be) (A2 : Option Addr) (n2 c2 : Nat) (out : List Int) (w : World) (hch : Ch w p slots l0 t0 made) (hm : mayN slots = true)
    (hr : Reads w B 3 A n (bks l)) (hB : B ≤ w.heap.size) (hr2 : Reads w B 1 A2 n2 (iv out)) (hok : BesOk l) (hnc : n ≤ c) (hnil : A = none → c = 0) (hmay : MayBs n l) (hmd : 0 ≤ made ∧ made ≤ 1000000) (hn2 : n2 ≤ 1000000)
    (hg : w.cell? ⟨gb, 0, none⟩ = some (.slice A2 n2 c2)) :
    Calls Try.prog 20 #[.pointer (some ⟨p, 0, none⟩), .slice A n c, .func (.func 39) #[] #[.pointer (some ⟨gb, 0, none⟩)]] w fun e w' => e = .returned (.int .i64 0) ∧ Ch w' p slots l (tableF (leftBe l out) slots) (made + 1) ∧ But p w w' := by
  have eg : ∀ args w, (callFunc 39 args).run Try.prog w = .ok (.enter 39 args) w := enters_of Try.func39 (by kernel_rfl) rfl
  have hgl := World.block_lt_of_cell? w _ hg
  have hn16 := hmay.1
  rw [← left_keep l out]
  refine set_yes p slots l0 t0 made _ (fun b => decide (b.id ∈ out)) A n c w.heap.size l w hch hm (hr.more hB) (Nat.le_refl _) hok hnc hnil hmay hmd ?_
  intro W hW
  exact gwo_fun 39 #[.pointer (some ⟨gb, 0, none⟩)] (fun id => decide (id ∈ out)) eg A n c w.heap.size l W ((hr.more hB).below hW) hW.size (by omega) hnil
    (fun W' id hW' => by
      have hWW := hW.trans (hW'.mono hW.size)
      exact gone1_any gb A2 n2 c2 w.heap.size out id W' ((hWW.cell (p := ⟨gb, 0, none⟩) hgl).trans hg) ((hr2.more hB).below hWW) hWW.size (by omega))
end Go.Proofs.Ytaamflhleommlaa
