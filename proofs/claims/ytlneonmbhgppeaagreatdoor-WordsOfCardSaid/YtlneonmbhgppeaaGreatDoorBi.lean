/- A Book's lists lie apart. Printed by gen_bi.py. Condition: it holds lists of words alone, below 50. -/
import Derived.Test.YtlneonmbhgppeaaGreatDoorBh
namespace Go.Proofs.YtlneonmbhgppeaaGreatDoor
open Go.RowKit
set_option linter.unusedVariables false
theorem marksV_add (j n : Nat) : ∀ m, marksV j n ++ marksV j m = marksV j (n + m) := by
  intro m
  induction m with
  | zero => simp [marksV]
  | succ m ih =>
    have : n + (m + 1) = (n + m) + 1 := by omega
    rw [this]
    simp only [marksV]
    rw [← List.append_assoc, ih]
structure BookCells (w : World) (kb : Nat) : Prop where
  c1 : w.cell? ⟨kb, 1, none⟩ = some (.slice none 0 0)
  c2 : w.cell? ⟨kb, 2, none⟩ = some (.slice none 0 0)
  c3 : w.cell? ⟨kb, 3, none⟩ = some (.slice none 0 0)
  c4 : w.cell? ⟨kb, 4, none⟩ = some (.slice none 0 0)
  c5 : w.cell? ⟨kb, 5, none⟩ = some (.slice none 0 0)
  c6 : w.cell? ⟨kb, 6, none⟩ = some (.slice none 0 0)
  c7 : w.cell? ⟨kb, 7, none⟩ = some (.slice none 0 0)
  c8 : w.cell? ⟨kb, 8, none⟩ = some (.slice none 0 0)
  c9 : w.cell? ⟨kb, 9, none⟩ = some (.slice none 0 0)
  c10 : w.cell? ⟨kb, 10, none⟩ = some (.slice none 0 0)
  c11 : w.cell? ⟨kb, 11, none⟩ = some (.slice none 0 0)
  c12 : w.cell? ⟨kb, 12, none⟩ = some (.slice none 0 0)
  c13 : w.cell? ⟨kb, 13, none⟩ = some (.slice none 0 0)
  c14 : w.cell? ⟨kb, 14, none⟩ = some (.slice none 0 0)
theorem BW.cells {w : World} {base kb : Nat} {bv : Value} {E : List Ent} (h : BW w base kb bv E) : BookCells w kb := by
  constructor
  · rw [h.bk.cell 1]; rfl
  · rw [h.bk.cell 2]; rfl
  · rw [h.bk.cell 3]; rfl
  · rw [h.bk.cell 4]; rfl
  · rw [h.bk.cell 5]; rfl
  · rw [h.bk.cell 6]; rfl
  · rw [h.bk.cell 7]; rfl
  · rw [h.bk.cell 8]; rfl
  · rw [h.bk.cell 9]; rfl
  · rw [h.bk.cell 10]; rfl
  · rw [h.bk.cell 11]; rfl
  · rw [h.bk.cell 12]; rfl
  · rw [h.bk.cell 13]; rfl
  · rw [h.bk.cell 14]; rfl
set_option maxHeartbeats 4000000 in
set_option maxRecDepth 100000 in
theorem apart_calls (base kb : Nat) (bv : Value) (E : List Ent) (w : World) (hB : BW w base kb bv E) (hm : E.length < 50) (h7 : base ≤ w.heap.size)
    (hnil : ∀ (i : Nat) (e : Ent), E[i]? = some e → e.long = .slice none 0 0 ∧ e.ln = 0 ∧ e.lxs = [] ∧ e.n ≤ 16777216) :
    Calls Tryz.prog 9 #[.pointer (some ⟨kb, 0, none⟩)] w (fun e w' => e = .returned (.bool true) ∧ Below base w w') := by
  have HB := Lib.hid hB
  have HNIL := Lib.hid hnil
  have hc := hB.cells
  have HC := Lib.hid hc
  clear hB hnil hc
  have hfw := fillWord_calls base kb bv E w HB.out hm h7 (fun i e he => (HNIL.out i e he).1)
  have HFW := Lib.hid hfw
  clear hfw
  go_enter Tryz.func9, Tryz.ntmps9
  go_wp2_with fail
  refine (fillByte_none kb _ HC.out.c1).mono ?_
  rintro e w9 ⟨rfl, rfl⟩
  go_wp2_with fail
  refine (fillInt_none kb _ HC.out.c2).mono ?_
  rintro e w9 ⟨rfl, rfl⟩
  go_wp2_with fail
  refine (fillText_none kb _ HC.out.c3).mono ?_
  rintro e w9 ⟨rfl, rfl⟩
  go_wp2_with fail
  refine (fillNum_none kb _ HC.out.c4).mono ?_
  rintro e w9 ⟨rfl, rfl⟩
  go_wp2_with fail
  refine (fillBool_none kb _ HC.out.c5).mono ?_
  rintro e w9 ⟨rfl, rfl⟩
  go_wp2_with fail
  refine (fillBoolList_none kb _ HC.out.c6).mono ?_
  rintro e w9 ⟨rfl, rfl⟩
  go_wp2_with fail
  refine (fillPair_none kb _ HC.out.c7).mono ?_
  rintro e w9 ⟨rfl, rfl⟩
  go_wp2_with fail
  refine (fillNode_none kb _ HC.out.c8).mono ?_
  rintro e w9 ⟨rfl, rfl⟩
  go_wp2_with fail
  refine (fillBound_none kb _ HC.out.c9).mono ?_
  rintro e w9 ⟨rfl, rfl⟩
  go_wp2_with fail
  refine (fillTerm_none kb _ HC.out.c10).mono ?_
  rintro e w9 ⟨rfl, rfl⟩
  go_wp2_with fail
  refine (fillSpot_none kb _ HC.out.c11).mono ?_
  rintro e w9 ⟨rfl, rfl⟩
  go_wp2_with fail
  refine (fillImport_none kb _ HC.out.c12).mono ?_
  rintro e w9 ⟨rfl, rfl⟩
  go_wp2_with fail
  refine (fillEntry_none kb _ HC.out.c13).mono ?_
  rintro e w9 ⟨rfl, rfl⟩
  go_wp2_with fail
  refine (fillItem_none kb _ HC.out.c14).mono ?_
  rintro e w9 ⟨rfl, rfl⟩
  go_wp2_with fail
  refine HFW.out.mono ?_
  rintro e w2 ⟨rfl, hb2, E2, hB2, hF2⟩
  have hs2 := hb2.size
  have HB2 := Lib.hid hB2
  have HF2 := Lib.hid hF2
  have HBL2 := Lib.hid hb2
  have HC2 := Lib.hid hB2.cells
  have hnil2 : ∀ (i : Nat) (e : Ent), E2[i]? = some e → e.long = .slice none 0 0 ∧ e.ln = 0 ∧ e.lxs = [] ∧ e.n ≤ 16777216 := by
    intro i e he
    have hi : i < E.length := by
      rcases Nat.lt_or_ge i E2.length with h1 | h1
      · rw [hF2.len] at h1; exact h1
      · rw [List.getElem?_eq_none h1] at he; cases he
    obtain ⟨f, k1, k2⟩ := hF2.at_ i (E[i]) (List.getElem?_eq_getElem hi)
    rw [he] at k1
    injection k1 with k1
    subst k1
    have := HNIL.out i _ (List.getElem?_eq_getElem hi)
    exact ⟨k2.2.2.1.trans this.1, k2.2.2.2.1.trans this.2.1, k2.2.2.2.2.1.trans this.2.2.1, by rw [k2.2.1]; exact this.2.2.2⟩
  have hgw := growWord_calls base kb bv E2 w2 hB2 (by rw [hF2.len]; exact hm) (by omega) hnil2
  have HGW := Lib.hid hgw
  clear hgw hnil2 hB2 hF2 hb2
  go_wp2_with fail
  refine (growByte_none kb _ HC2.out.c1).mono ?_
  rintro e w9 ⟨rfl, rfl⟩
  go_wp2_with fail
  refine (growInt_none kb _ HC2.out.c2).mono ?_
  rintro e w9 ⟨rfl, rfl⟩
  go_wp2_with fail
  refine (growText_none kb _ HC2.out.c3).mono ?_
  rintro e w9 ⟨rfl, rfl⟩
  go_wp2_with fail
  refine (growNum_none kb _ HC2.out.c4).mono ?_
  rintro e w9 ⟨rfl, rfl⟩
  go_wp2_with fail
  refine (growBool_none kb _ HC2.out.c5).mono ?_
  rintro e w9 ⟨rfl, rfl⟩
  go_wp2_with fail
  refine (growBoolList_none kb _ HC2.out.c6).mono ?_
  rintro e w9 ⟨rfl, rfl⟩
  go_wp2_with fail
  refine (growPair_none kb _ HC2.out.c7).mono ?_
  rintro e w9 ⟨rfl, rfl⟩
  go_wp2_with fail
  refine (growNode_none kb _ HC2.out.c8).mono ?_
  rintro e w9 ⟨rfl, rfl⟩
  go_wp2_with fail
  refine (growBound_none kb _ HC2.out.c9).mono ?_
  rintro e w9 ⟨rfl, rfl⟩
  go_wp2_with fail
  refine (growTerm_none kb _ HC2.out.c10).mono ?_
  rintro e w9 ⟨rfl, rfl⟩
  go_wp2_with fail
  refine (growSpot_none kb _ HC2.out.c11).mono ?_
  rintro e w9 ⟨rfl, rfl⟩
  go_wp2_with fail
  refine (growImport_none kb _ HC2.out.c12).mono ?_
  rintro e w9 ⟨rfl, rfl⟩
  go_wp2_with fail
  refine (growEntry_none kb _ HC2.out.c13).mono ?_
  rintro e w9 ⟨rfl, rfl⟩
  go_wp2_with fail
  refine (growItem_none kb _ HC2.out.c14).mono ?_
  rintro e w9 ⟨rfl, rfl⟩
  go_wp2_with fail
  refine HGW.out.mono ?_
  rintro e w3 ⟨rfl, hb3, E3, hB3, hG3⟩
  have hs3 := hb3.size
  have HB3 := Lib.hid hB3
  have HBL3 := Lib.hid hb3
  have hlen3 : E3.length < 50 := by rw [hG3.len, HF2.out.len]; exact hm
  have hmk : ∀ (i : Nat) (e : Ent), E3[i]? = some e → e.ln = e.n + 40 ∧ e.lxs = marksV (1 + i) (e.n + 40) ∧ e.xs = marksV (1 + i) e.n ∧ e.n ≤ 16777216 := by
    intro i e he
    have hi : i < E.length := by
      rcases Nat.lt_or_ge i E3.length with h1 | h1
      · rw [hG3.len, HF2.out.len] at h1; exact h1
      · rw [List.getElem?_eq_none h1] at he; cases he
    obtain ⟨f, k1, k2⟩ := HF2.out.at_ i (E[i]) (List.getElem?_eq_getElem hi)
    obtain ⟨x, l1, l2⟩ := hG3.at_ i f k1
    rw [he] at l1
    injection l1 with l1
    subst l1
    have h4 := HNIL.out i _ (List.getElem?_eq_getElem hi)
    have hx := k2.2.2.2.2.2
    rw [if_pos hi] at hx
    have hg := l2.2.2.2.1 (by rw [HF2.out.len]; exact hi)
    have hn : f.n = e.n := l2.2.1.symm
    have hn2 : f.n = (E[i]).n := k2.2.1
    refine ⟨by rw [hg.1, hn], ?_, ?_, by rw [← hn, hn2]; exact h4.2.2.2⟩
    · rw [hg.2, hx, ← hn2, hn, marksV_add, Nat.add_comm i 1]
    · rw [l2.2.2.1, hx, ← hn2, hn, Nat.add_comm i 1]
  have HMK := Lib.hid hmk
  have HC3 := Lib.hid hB3.cells
  clear hB3 hG3 hb3 hmk
  go_wp2_with fail
  refine (lookByte_none kb _ HC3.out.c1).mono ?_
  rintro e w9 ⟨rfl, rfl⟩
  go_wp2_with fail
  refine (lookInt_none kb _ HC3.out.c2).mono ?_
  rintro e w9 ⟨rfl, rfl⟩
  go_wp2_with fail
  refine (lookText_none kb _ HC3.out.c3).mono ?_
  rintro e w9 ⟨rfl, rfl⟩
  go_wp2_with fail
  refine (lookNum_none kb _ HC3.out.c4).mono ?_
  rintro e w9 ⟨rfl, rfl⟩
  go_wp2_with fail
  refine (lookBool_none kb _ HC3.out.c5).mono ?_
  rintro e w9 ⟨rfl, rfl⟩
  go_wp2_with fail
  refine (lookBoolList_none kb _ HC3.out.c6).mono ?_
  rintro e w9 ⟨rfl, rfl⟩
  go_wp2_with fail
  refine (lookPair_none kb _ HC3.out.c7).mono ?_
  rintro e w9 ⟨rfl, rfl⟩
  go_wp2_with fail
  refine (lookNode_none kb _ HC3.out.c8).mono ?_
  rintro e w9 ⟨rfl, rfl⟩
  go_wp2_with fail
  refine (lookBound_none kb _ HC3.out.c9).mono ?_
  rintro e w9 ⟨rfl, rfl⟩
  go_wp2_with fail
  refine (lookTerm_none kb _ HC3.out.c10).mono ?_
  rintro e w9 ⟨rfl, rfl⟩
  go_wp2_with fail
  refine (lookSpot_none kb _ HC3.out.c11).mono ?_
  rintro e w9 ⟨rfl, rfl⟩
  go_wp2_with fail
  refine (lookImport_none kb _ HC3.out.c12).mono ?_
  rintro e w9 ⟨rfl, rfl⟩
  go_wp2_with fail
  refine (lookEntry_none kb _ HC3.out.c13).mono ?_
  rintro e w9 ⟨rfl, rfl⟩
  go_wp2_with fail
  refine (lookItem_none kb _ HC3.out.c14).mono ?_
  rintro e w9 ⟨rfl, rfl⟩
  go_wp2_with fail
  refine (lookWord_calls base kb bv E3 _ HB3.out hlen3 (by omega) HMK.out).mono ?_
  rintro e w4 ⟨rfl, hb4⟩
  have HBL4 := Lib.hid hb4
  clear hb4
  go_wp2_with fail
  go_ret
  exact ⟨rfl, (HBL2.out.trans HBL3.out).trans HBL4.out⟩
end Go.Proofs.YtlneonmbhgppeaaGreatDoor
