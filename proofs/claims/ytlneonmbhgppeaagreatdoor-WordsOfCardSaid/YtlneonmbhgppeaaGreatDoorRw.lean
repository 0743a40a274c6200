/- The statement WordsOf: of any text the words, or where it is none, are the chapter's, in new memory. Condition: the laid variables hold what the program's text lays in them (the card ties that). -/
import Derived.Test.YtlneonmbhgppeaaGreatDoorRv
import Derived.SevenTiedAt
namespace Go.Proofs.YtlneonmbhgppeaaGreatDoor
open Go
theorem row_tie : Rows.wordsOfRow.laidByTextAt .later Tryz.pinned [.data, .data, .data, .sentinel, .sentinel, .data] true := OpenClaim.laidByTextAt_later rfl rfl tie (by kernel_rfl)
theorem wordsOf_card : Rows.WordsOfCardSaid :=
  Claim7.holds_tied_plain_at .later [] [.data, .data, .data, .sentinel, .sentinel, .data] true (true, "841325e3427511efeea87bff5b4e8aa0849a531e84966af81b9c9c33b6814d26") true
    wordsOf_holds (fun _ h => by cases h) (by kernel_rfl) (fun _ h => by cases h) row_tie rfl ⟨rfl, rfl⟩ (by kernel_rfl) rfl
    (fun f fn hf hfn => by
      obtain rfl : f = 3 := Option.some.inj ((show Tryz.prog.funcNamed "cartouche/cartouchelaw20.WordsOf" = some 3 by kernel_rfl).symm.trans hf) |>.symm
      obtain rfl : fn = Tryz.f3 := (Option.some.inj (Tryz.func3.symm.trans hfn)).symm
      exact ⟨by kernel_rfl, fun j t ht => by
        rw [Tryz.params3] at ht
        have hm : t ∈ [9] := by simpa using Array.mem_of_getElem? ht
        have hall : ([9].all fun u => !Tryz.prog.wantsStandIn u) = true := by kernel_rfl
        exact (show Tryz.prog.wantsStandIn t = false by simpa using List.all_eq_true.1 hall t hm)⟩)
    (by kernel_rfl)
#print axioms wordsOf_card
end Go.Proofs.YtlneonmbhgppeaaGreatDoor
