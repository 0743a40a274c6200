/- The chapter's example (lives). Condition: the laid variables lie as their texts lay them. -/
import Derived.Test.YtlneonmbhgppeaaGreatDoorRr
namespace Go.Proofs.YtlneonmbhgppeaaGreatDoor
open Go.RowKit Go.Proofs.YtlneonmbhgppeaaGreatDoorW.PrintWords Go.Proofs.YtlneonmbhgppeaaGreatDoor.PWordsOf
set_option maxRecDepth 100000
set_option linter.unusedVariables false
def ex1 : ByteArray := ⟨#[97, 32, 60, 61, 32, 37, 55]⟩
def ex2 : ByteArray := ⟨#[48, 48, 55]⟩
def ex3 : ByteArray := ⟨#[97, 10, 36]⟩
namespace Rp
def ofS (x : S51) : Word := ⟨x.f0, x.f1, x.f2.f0, x.f2.f1⟩
theorem ofS_toS (l : List Word) : (l.map toS).map ofS = l := by
  rw [List.map_map]
  have : ofS ∘ toS = id := by funext x; rfl
  rw [this, List.map_id]
theorem res_some {o : Option (List Word) × Pl} {l : List S51} {a b : Int} (h : res [] o = (l, a, b, 0)) : o = (some (l.map ofS), (a, b)) := by
  obtain ⟨o1, o2, o3⟩ := o
  cases o1 with
  | none => simp [res] at h
  | some ws =>
    simp [res] at h
    obtain ⟨h1, h2, h3⟩ := h
    rw [← h1, h2, h3, ofS_toS]
theorem res_none {o : Option (List Word) × Pl} {l : List S51} {a b : Int} (h : res [] o = (l, a, b, 11)) : o = (none, (a, b)) := by
  obtain ⟨o1, o2, o3⟩ := o
  cases o1 with
  | none =>
    simp [res] at h
    rw [h.2.1, h.2.2]
  | some ws => simp [res] at h
theorem of_s (s : ByteArray) (hs : s.size ≤ 1048576) : cartoucheref20_Of.l0 (4 * s.size + 300) s [] 0 1 1 = some (res [] (wordsOf s)) := by
  have := (of_l s (by omega) s.size s.data.toList rfl).1 0 (4 * s.size + 300) [] (1, 1) rfl (by omega) (by simp) ⟨by simp, by simp, by simp, by simp⟩ (by omega)
  have hw : wordsOf s = OM false s.data.toList (1, 1) := OM_ofL _ _ _ (Nat.lt_succ_self s.data.toList.length)
  rw [hw]
  exact this
theorem ref1 : cartoucheref20_Of.l0 (4 * ex1.size + 300) ex1 [] 0 1 1 = some ([⟨0, ⟨#[97]⟩, ⟨1, 1⟩⟩, ⟨2, ⟨#[60, 61]⟩, ⟨1, 3⟩⟩, ⟨2, ⟨#[37]⟩, ⟨1, 6⟩⟩, ⟨1, ⟨#[55]⟩, ⟨1, 7⟩⟩, ⟨3, ⟨#[]⟩, ⟨1, 8⟩⟩], 1, 8, 0) := by kernel_rfl
theorem ref2 : cartoucheref20_Of.l0 (4 * ex2.size + 300) ex2 [] 0 1 1 = some ([], 1, 1, 11) := by kernel_rfl
theorem ref3 : cartoucheref20_Of.l0 (4 * ex3.size + 300) ex3 [] 0 1 1 = some ([], 2, 1, 11) := by kernel_rfl
theorem words1 : wordsOf ex1 = (some [⟨0, ⟨#[97]⟩, 1, 1⟩, ⟨2, ⟨#[60, 61]⟩, 1, 3⟩, ⟨2, ⟨#[37]⟩, 1, 6⟩, ⟨1, ⟨#[55]⟩, 1, 7⟩, ⟨3, ⟨#[]⟩, 1, 8⟩], (1, 8)) := by
  have h := of_s ex1 (by decide)
  rw [ref1] at h
  injection h with h
  exact res_some h.symm
theorem words2 : wordsOf ex2 = (none, (1, 1)) := by
  have h := of_s ex2 (by decide)
  rw [ref2] at h
  injection h with h
  exact res_none h.symm
theorem words3 : wordsOf ex3 = (none, (2, 1)) := by
  have h := of_s ex3 (by decide)
  rw [ref3] at h
  injection h with h
  exact res_none h.symm
end Rp
theorem keep_cell2 {W w' : World} {a : Addr} {v : Value} (hb : Below W.heap.size W w') (h : W.cell? a = some v) : w'.cell? a = some v := by
  have hl := World.block_lt_of_cell? W _ h
  have e := hb.block a.block hl
  rw [World.cell?_of_block (w := W) e]
  exact h
theorem post1 {w w' : World} {e : Ending} (h : WordsPost w ex1 e w') : Below w.heap.size w w' ∧ ∃ g c, e = .returned (.tuple #[.slice (some ⟨g, 0, none⟩) 5 c, .agg #[.int .i64 1, .int .i64 8], .int .i64 0]) ∧
    w'.cell? ⟨g, 0, none⟩ = some (.int .u8 0) ∧ w'.cell? ⟨g, 5, none⟩ = some (.string ⟨#[60, 61]⟩) ∧ w'.cell? ⟨g, 12, none⟩ = some (.int .u8 1) ∧ w'.cell? ⟨g, 16, none⟩ = some (.int .u8 3) := by
  obtain ⟨hb, h⟩ := h
  rw [if_neg (by decide), Rp.words1] at h
  obtain ⟨v, rfl, hown⟩ := h
  obtain ⟨g, c, rfl, _, _⟩ := hown.form (by decide)
  refine ⟨hb, g, c, rfl, ?_, ?_, ?_, ?_⟩
  · rw [hown.cellAt 0 (by decide)]; rfl
  · rw [hown.cellAt 5 (by decide)]; rfl
  · rw [hown.cellAt 12 (by decide)]; rfl
  · rw [hown.cellAt 16 (by decide)]; rfl
theorem post2 {w w' : World} {e : Ending} (h : WordsPost w ex2 e w') : Below w.heap.size w w' ∧ e = .returned (.tuple #[.slice none 0 0, .agg #[.int .i64 1, .int .i64 1], .int .i64 11]) := by
  obtain ⟨hb, h⟩ := h
  rw [if_neg (by decide), Rp.words2] at h
  exact ⟨hb, h⟩
theorem post3 {w w' : World} {e : Ending} (h : WordsPost w ex3 e w') : Below w.heap.size w w' ∧ e = .returned (.tuple #[.slice none 0 0, .agg #[.int .i64 2, .int .i64 1], .int .i64 11]) := by
  obtain ⟨hb, h⟩ := h
  rw [if_neg (by decide), Rp.words3] at h
  exact ⟨hb, h⟩
set_option maxHeartbeats 4000000 in
theorem lives_calls (w : World) (hG : Glob w) (h7 : 7 ≤ w.heap.size) :
    Calls Tryz.prog 4 #[] w (fun e w' => e = .returned (.bool true) ∧ Below w.heap.size w w') := by
  have c1 := fun W hG h7 => wordsOf_calls ex1 (by decide) W hG h7
  have c2 := fun W hG h7 => wordsOf_calls ex2 (by decide) W hG h7
  have c3 := fun W hG h7 => wordsOf_calls ex3 (by decide) W hG h7
  have C1 := Lib.hid c1
  have C2 := Lib.hid c2
  have C3 := Lib.hid c3
  have HG := Lib.hid hG
  clear c1 c2 c3 hG
  go_enter Tryz.func4, Tryz.ntmps4
  go_wp2_with fail
  refine (C1.out w HG.out h7).mono ?_
  intro e w1 hp1
  obtain ⟨hb1, g, c, rfl, k0, k1, k2, k3⟩ := post1 hp1
  have HB1 := Lib.hid hb1
  have G1 := Lib.hid (HG.out.below hb1)
  have z1 : 7 ≤ w1.heap.size := by have := hb1.size; omega
  have K0 := Lib.hid k0
  have K1 := Lib.hid k1
  have K2 := Lib.hid k2
  have K3 := Lib.hid k3
  clear hb1 hp1 k0 k1 k2 k3
  go_wp2_with fail
  refine (C2.out _ (G1.out.below ((Below.refl _ _).alloc (Nat.le_refl _) _)) (by simp; omega)).mono ?_
  intro e w2 hp2
  obtain ⟨hb2, rfl⟩ := post2 hp2
  have HA1 := Lib.hid ((Below.refl w1.heap.size w1).alloc (Nat.le_refl _) (.cells #[.int .i64 1, .int .i64 8] 25))
  have HB2 := Lib.hid (HA1.out.trans (hb2.mono HA1.out.size))
  have G2 := Lib.hid (G1.out.below HB2.out)
  have n1 := keep_cell2 hb2 (((Blk.new w1 25 #[.int .i64 1, .int .i64 8])).cell 0)
  have n2 := keep_cell2 hb2 (((Blk.new w1 25 #[.int .i64 1, .int .i64 8])).cell 1)
  have z2 : 7 ≤ w2.heap.size := by have := HB2.out.size; omega
  clear hb2 hp2
  go_wp2_with fail
  refine (C3.out _ (G2.out.below ((Below.refl _ _).alloc (Nat.le_refl _) _)) (by simp; omega)).mono ?_
  intro e w3 hp3
  obtain ⟨hb3, rfl⟩ := post3 hp3
  have HA2 := Lib.hid ((Below.refl w2.heap.size w2).alloc (Nat.le_refl _) (.cells #[.int .i64 1, .int .i64 1] 25))
  have HB3 := Lib.hid (HA2.out.trans (hb3.mono HA2.out.size))
  have m0 := keep_cell2 HB3.out (keep_cell2 HB2.out K0.out)
  have m1 := keep_cell2 HB3.out (keep_cell2 HB2.out K1.out)
  have m2 := keep_cell2 HB3.out (keep_cell2 HB2.out K2.out)
  have m3 := keep_cell2 HB3.out (keep_cell2 HB2.out K3.out)
  have a1 := keep_cell2 HB3.out n1
  have a2 := keep_cell2 HB3.out n2
  have a3 := keep_cell2 hb3 (((Blk.new w2 25 #[.int .i64 1, .int .i64 1])).cell 0)
  have a4 := keep_cell2 hb3 (((Blk.new w2 25 #[.int .i64 1, .int .i64 1])).cell 1)
  simp at a1 a2 a3 a4
  have lg : g < w3.heap.size := World.block_lt_of_cell? w3 _ m0
  have l1 : w1.heap.size < w3.heap.size := World.block_lt_of_cell? w3 _ a1
  have l2 : w2.heap.size < w3.heap.size := World.block_lt_of_cell? w3 _ a3
  clear hb3 hp3 n1 n2
  go_wp2_with fail
  go_ret
  have s1 := HB1.out.size
  have s2 := HB2.out.size
  have s3 := HB3.out.size
  exact ⟨rfl, ((HB1.out.trans (HB2.out.mono s1)).trans (HB3.out.mono (by omega))).alloc (by omega) _⟩
end Go.Proofs.YtlneonmbhgppeaaGreatDoor
