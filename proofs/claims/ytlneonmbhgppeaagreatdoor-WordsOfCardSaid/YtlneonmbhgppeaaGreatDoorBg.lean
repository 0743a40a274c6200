/- A Book grows its lists of words: the walk. Condition: it holds below 50. -/
import Derived.Test.YtlneonmbhgppeaaGreatDoorBf
import Derived.Test.YtlneonmbhgppeaaGreatDoorWg
namespace Go.Proofs.YtlneonmbhgppeaaGreatDoor
open Go.RowKit
set_option linter.unusedVariables false
set_option maxHeartbeats 4000000 in
set_option maxRecDepth 100000 in
theorem growWord_calls (base kb : Nat) (bv : Value) (E : List Ent) (w : World) (hB : BW w base kb bv E) (hm : E.length < 50) (h7 : base ≤ w.heap.size)
    (hnil : ∀ (i : Nat) (e : Ent), E[i]? = some e → e.long = .slice none 0 0 ∧ e.ln = 0 ∧ e.lxs = [] ∧ e.n ≤ 16777216) :
    Calls Tryz.prog 44 #[.pointer (some ⟨kb, 0, none⟩)] w (fun e w' => e = .returned (.tuple #[]) ∧ Below base w w' ∧ ∃ E', BW w' base kb bv E' ∧ Grown E.length E E') := by
  have HB := Lib.hid hB
  have HNIL := Lib.hid hnil
  clear hB hnil
  go_enter Tryz.func44, Tryz.ntmps44
  go_wp2_with fail
  go_loopw [2] (fun v wr => ∃ i E', v = .int .i64 ((i : Nat) : Int) ∧ i ≤ E.length ∧ BW wr base kb bv E' ∧ Grown i E E' ∧ Below base w wr) (fun v wr => E.length - (RowKit.intOf v).toNat)
  case atStart => exact ⟨0, E, rfl, by omega, HB.out, ⟨rfl, fun j e he => ⟨e, he, rfl, rfl, rfl, fun h => by omega, fun _ => rfl⟩⟩, Below.refl _ _⟩
  case round =>
    obtain ⟨w1, hw1⟩ : ∃ x : World, x = wr := ⟨_, rfl⟩
    subst hw1
    obtain ⟨i, E', rfl, hi, hb, hf, hbel⟩ := hrel
    have h15 := hb.bk.cell 15
    simp [bookC] at h15
    by_cases hlt : i < E.length
    · obtain ⟨e, he⟩ : ∃ e, E'[i]? = some e := ⟨_, List.getElem?_eq_getElem (by rw [hf.len]; exact hlt)⟩
      have hrow := hb.row
      obtain ⟨gb, cb, rfl, hgbb0, hgbl⟩ := hrow.form (by rw [hf.len]; omega)
      have hgbb : base ≤ gb := Nat.le_trans hb.hb hgbb0
      clear hgbb0
      have hg := rowsV_get E' 1 i e he
      have c0 := hrow.cellAt (i * 3) (by rw [hf.len]; omega)
      have c1 := hrow.cellAt (i * 3 + 1) (by rw [hf.len]; omega)
      have c2 := hrow.cellAt (i * 3 + 2) (by rw [hf.len]; omega)
      rw [hg.1] at c0
      rw [hg.2.1] at c1
      rw [hg.2.2] at c2
      have hlen := hf.len
      rw [hlen] at h15
      have hown := (hb.lst i e he)
      have hself := Alone.self hb he
      have hsame : e = E[i]'hlt := by
        obtain ⟨f, k1, k2⟩ := hf.at_ i (E[i]'hlt) (List.getElem?_eq_getElem hlt)
        rw [he] at k1
        injection k1 with k1
        rw [k1]
        exact k2.2.2.2.2 (Nat.le_refl _)
      have hn4 := HNIL.out i e (by rw [hsame]; exact List.getElem?_eq_getElem hlt)
      obtain ⟨A, c, hv⟩ := own_slice hown.1
      obtain ⟨v, n, xs, long, ln, lxs⟩ := e
      simp only at hv hown c0 c1 hn4 hself
      obtain ⟨hn1, hn2, hn3, hn5⟩ := hn4
      subst hv hn1 hn2 hn3
      have HBW := Lib.hid hb
      have HF := Lib.hid hf
      have HBL := Lib.hid hbel
      have HR := Lib.hid hrow
      have HSAME := Lib.hid hsame
      have HSELF := Lib.hid hself
      have HOWN := Lib.hid hown.1
      clear hb hf hbel hrow hg hsame hself hown
      have hbs : base ≤ w1.heap.size := by have := HBL.out.size; omega
      go_wp2_with fail
      go_loopw [4, 5] (fun v4 v5 wq => ∃ k, v5 = .int .i64 ((k : Nat) : Int) ∧ k ≤ 40 ∧ BW wq base kb (.slice (some ⟨gb, 0, none⟩) E'.length cb) E' ∧ wq.ownsRow base 51 4 v4 (n + k) (xs ++ marksV (1 + i) k) ∧ Alone E' i v4 ∧ Below base w wq ∧ Blk wq w1.heap.size 77 #[.slice A n c, .slice none 0 0, .int .i64 (1 + (i : Int))]) (fun _ v5 wq => 40 - (RowKit.intOf v5).toNat)
      case atStart =>
        refine ⟨0, rfl, by omega, HBW.out.alloc _, ?_, HSELF.out, HBL.out.alloc hbs _, Blk.new _ _ _⟩
        simp only [marksV, List.append_nil, Nat.add_zero]
        exact HOWN.out.alloc _
      case round =>
        obtain ⟨k, rfl, hk, hbq, hoq, halq, hblq, hblk⟩ := hrel
        have d2 := hblk.cell 2
        simp at d2
        have HBQ := Lib.hid hbq
        have HOQ := Lib.hid hoq
        have HAQ := Lib.hid halq
        have HBLQ := Lib.hid hblq
        have HBLK := Lib.hid hblk
        have hbsq : base ≤ wr.heap.size := by have := hblq.size; omega
        clear hbq hoq halq hblq hblk
        by_cases hkn : k < 40
        · go_wp2_with fail
          refine (markWord_calls (1 + i) (by omega) _).mono ?_
          rintro e w4 ⟨rfl, hb4⟩
          have hk4 := HBLK.out.belowW hb4
          have HQ4 := Lib.hid (HBQ.out.below hb4)
          have HO4 := Lib.hid (own_below HOQ.out hb4)
          have hs4 := hb4.size
          have HB4 := Lib.hid hb4
          have HK4 := Lib.hid hk4
          clear hk4 hb4
          obtain ⟨i0, hi0, hz0, hz1, hz2⟩ := info_of info_word
          go_wp2_with (at_builtin; refine wpList_append_split _ rfl (.tmp 28) (.tmp 32) 23 rfl base 51 i0 _ 4 40 Tryz.underlying23 hi0 hz0 hz1 hz2 rfl (by omega) _ (n + k) (xs ++ marksV (1 + i) k) rfl (HO4.out.alloc _) ⟨w4.heap.size, 0, none⟩ 1 1 (markV (1 + i)) rfl rfl (World.news_of_block (cs := (markV (1 + i)).toArray) (t := 51) (fr := (0, 0)) (heap_alloc_new w4 _)) (by simp [markV, Value.oneCell']) (by omega) (by unfold maxLen; omega) (by omega) (by simp; omega) ?_; intro g4 cap4 w6 hown6 hs6; have HO6 := Lib.hid hown6; have HS6 := Lib.hid hs6; clear hown6 hs6)
          have hap := HQ4.out.alloc (.cells (markV (1 + i)).toArray 51)
          have happ := hap.append (e := ⟨.slice A n c, n, xs, .slice none 0 0, 0, []⟩) (m := k) (ys := marksV (1 + i) k) (news := markV (1 + i)) he rfl rfl rfl (HO4.out.alloc _) HAQ.out HS6.out HO6.out
          refine ⟨⟨k + 1, by simp, by omega, happ.1, ?_, happ.2, ?_, ?_⟩, by simp [RowKit.intOf]; omega⟩
          · have := HO6.out
            simp only [marksV]
            rw [← List.append_assoc]
            exact this
          · exact HS6.out.below ((HBLQ.out.trans (HB4.out.mono hbsq)).alloc (by omega) _) (HO4.out.alloc _) (by simp; omega)
          · exact HS6.out.blk (HK4.out.alloc _) (own_blk_ne HO4.out HK4.out (by decide))
        · have hk40 : k = 40 := by omega
          subst hk40
          have h15q := HBQ.out.bk.cell 15
          simp [bookC] at h15q
          rw [hlen] at h15q
          have c1q := (HBQ.out.row.cellAt (i * 3 + 1) (by rw [hlen]; omega)).trans (rowsV_get E' 1 i _ he).2.1
          have f1q := HBQ.out.row.frozenAt (i * 3 + 1)
          obtain ⟨A4, c4, hu4⟩ := own_slice HOQ.out
          subst hu4
          have hset := HBQ.out.setLong he rfl HOQ.out HAQ.out
          have HSET := Lib.hid hset
          have hbe : Below base w (wr.setCell ⟨gb, i * 3 + 1, none⟩ (.slice A4 (n + 40) c4)) := HBLQ.out.setCell (p := ⟨gb, i * 3 + 1, none⟩) hgbb _
          have HBE := Lib.hid hbe
          clear hset hbe
          go_wp2_with fail
          refine ⟨⟨i + 1, _, by simp, by omega, HSET.out, ?_, HBE.out⟩, by simp [RowKit.intOf]; omega⟩
          refine ⟨by rw [List.length_set]; exact hlen, ?_⟩
          intro j x hx
          obtain ⟨f, k1, k2⟩ := HF.out.at_ j x hx
          by_cases hj : j = i
          · subst hj
            refine ⟨_, List.getElem?_set_self (by rw [hlen]; exact hlt), ?_⟩
            rw [he] at k1
            injection k1 with k1
            subst k1
            refine ⟨k2.1, k2.2.1, k2.2.2.1, fun _ => ⟨?_, ?_⟩, fun h => by omega⟩
            · rw [← k2.2.1]
            · rw [← k2.2.2.1, Nat.add_comm 1 j]
          · refine ⟨f, by rw [List.getElem?_set_ne (fun e => hj e.symm)]; exact k1, k2.1, k2.2.1, k2.2.2.1, fun h => k2.2.2.2.1 (by omega), fun h => k2.2.2.2.2 (by omega)⟩
    · have : i = E.length := by omega
      subst this
      have hlen := hf.len
      obtain ⟨A, c, hbv⟩ := own_slice hb.row
      subst hbv
      rw [hlen] at h15
      have HBW := Lib.hid hb
      have HF := Lib.hid hf
      have HBL := Lib.hid hbel
      clear hb hf hbel
      go_wp2_with fail
      refine bodyPost_end (results_none rfl _ _ _) rfl ?_
      exact ⟨rfl, HBL.out, _, HBW.out, HF.out⟩
end Go.Proofs.YtlneonmbhgppeaaGreatDoor
