/- The words of a text, or where it is none. Conditions: the tables lie as their texts lay them; the text has 2^48 bytes at most. -/
import Derived.Test.YtlneonmbhgppeaaGreatDoorWf
import Derived.Deep.AppendLies
import Derived.Deep.RegionLaw
namespace Go.Proofs.YtlneonmbhgppeaaGreatDoor
open Go.RowKit

def wordV (x : Word) : List Value := [.int .u8 x.kind, .string x.text, .int .i64 x.line, .int .i64 x.col]
def wordsV (l : List Word) : List Value := l.flatMap wordV
theorem wordsV_length (l : List Word) : (wordsV l).length = l.length * 4 := by
  unfold wordsV
  induction l with
  | nil => rfl
  | cons x l ih => rw [List.flatMap_cons, List.length_append, ih, List.length_cons]; simp [wordV]; omega
theorem wordsV_snoc (l : List Word) (x : Word) : wordsV (l ++ [x]) = wordsV l ++ wordV x := by simp [wordsV]
theorem wordsV_one (l : List Word) : ∀ u ∈ wordsV l, u.oneCell' = true := by
  intro u hu
  unfold wordsV at hu
  rw [List.mem_flatMap] at hu
  obtain ⟨x, _, hx⟩ := hu
  simp only [wordV, List.mem_cons, List.not_mem_nil, or_false] at hx
  rcases hx with rfl | rfl | rfl | rfl <;> rfl
theorem info_word : (Tryz.prog.info? 51).map (fun i => (i.zero, i.size, i.bytes)) = some (some (.agg #[.int .u8 0, .string ⟨#[]⟩, .int .i64 0, .int .i64 0]), 4, 40) := by kernel_rfl

/-- what is told behind a skip -/
def ofA (f : Nat) (l : List UInt8) (p : Pl) : Option (List Word) × Pl :=
  if l = [] then (some [endW p], p) else
  if (wordL l).1 = 0 then (none, p) else
  let r := ofL f (l.drop (wordL l).1) (adv p (l.take (wordL l).1))
  (r.1.map fun ws => ⟨(wordL l).2, bytes (l.take (wordL l).1), p.1, p.2⟩ :: ws, r.2)
theorem ofL_succ (f : Nat) (l : List UInt8) (p : Pl) : ofL (f + 1) l p = ofA f (skipS false l p).1 (skipS false l p).2 := rfl

def wordsOf (s : ByteArray) : Option (List Word) × Pl := ofL (s.size + 1) s.data.toList (1, 1)
/-- what the call hands back, by what is told -/
def WordsPost (w : World) (s : ByteArray) (e : Ending) (w' : World) : Prop :=
  Below w.heap.size w w' ∧
  if 1048576 < s.size then e = .returned (.tuple #[.slice none 0 0, .agg #[.int .i64 1, .int .i64 1], .int .i64 3]) else
  match (wordsOf s).1 with
  | some ws => ∃ v, e = .returned (.tuple #[v, .agg #[.int .i64 (wordsOf s).2.1, .int .i64 (wordsOf s).2.2], .int .i64 0]) ∧ w'.ownsRow w.heap.size 51 4 v ws.length (wordsV ws)
  | none => e = .returned (.tuple #[.slice none 0 0, .agg #[.int .i64 (wordsOf s).2.1, .int .i64 (wordsOf s).2.2], .int .i64 11])

set_option maxHeartbeats 2000000 in
theorem of_long (s : ByteArray) (h : 1048576 < s.size) (hs : s.size ≤ 281474976710656) (w : World) : Calls Tryz.prog 5 #[.string s] w (WordsPost w s) := by
  have hl : (1048576 : Int) < (s.size : Int) := by omega
  go_enter Tryz.func5, Tryz.ntmps5
  go_wp2_with fail
  go_region
  go_wp2
  refine bodyPost_ret (v := .tuple #[.slice none 0 0, .agg #[.int .i64 1, .int .i64 1], .int .i64 3]) (by simp [results, Tryz.results5, go_sem]) rfl ?_
  refine ⟨?_, by rw [if_pos h]⟩
  exact ((((Below.refl _ _).alloc (Nat.le_refl _) _).alloc (by simp) _).drew)

/-- The loop's state: what is left, what has been told. -/
structure WI (w : World) (s : ByteArray) (v : Value) (wr : World) (s1 : ByteArray) (p1 : Pl) (acc : List Word) (f : Nat) : Prop where
  rb : RB wr (w.heap.size + 1) s1 p1
  pb : PB p1 s1.size
  at_ : Blk wr w.heap.size 25 #[.int .i64 0, .int .i64 0]
  own : wr.ownsRow w.heap.size 51 4 v acc.length (wordsV acc)
  len : acc.length + s1.size ≤ s.size
  fuel : s1.size ≤ f
  told : wordsOf s = ((ofA f s1.data.toList p1).1.map (acc ++ ·), (ofA f s1.data.toList p1).2)
  bel : Below w.heap.size w wr

theorem extract_bytes (s : ByteArray) (n : Nat) : s.extract 0 n = bytes (s.data.toList.take n) := by
  have h := Lib.extract_from_zero s n
  unfold bytes
  rw [← h]

theorem told_start (s s0 : ByteArray) (h : s0.data.toList = (skipS false s.data.toList (1, 1)).1) : wordsOf s = ((ofA s.size s0.data.toList (skipS false s.data.toList (1, 1)).2).1.map (([] : List Word) ++ ·), (ofA s.size s0.data.toList (skipS false s.data.toList (1, 1)).2).2) := by
  rw [h]
  unfold wordsOf
  rw [ofL_succ]
  have : (fun x : List Word => ([] : List Word) ++ x) = id := by funext x; rfl
  rw [this, Option.map_id]
  rfl
theorem told_end {w : World} {s : ByteArray} {v : Value} {wr : World} {s1 : ByteArray} {p1 : Pl} {acc : List Word} {f : Nat} (h : WI w s v wr s1 p1 acc f) (h0 : s1.size = 0) : wordsOf s = (some (acc ++ [endW p1]), p1) := by
  have hn : s1.data.toList = [] := List.eq_nil_of_length_eq_zero (by rw [Array.length_toList]; exact h0)
  rw [h.told, hn]
  rfl
theorem ne_nil_of {s1 : ByteArray} (h : 0 < s1.size) : s1.data.toList ≠ [] := fun e => by
  have : s1.data.toList.length = 0 := by rw [e]; rfl
  rw [Array.length_toList] at this
  have : s1.size = 0 := this
  omega
theorem told_bad {w : World} {s : ByteArray} {v : Value} {wr : World} {s1 : ByteArray} {p1 : Pl} {acc : List Word} {f : Nat} (h : WI w s v wr s1 p1 acc f) (h0 : 0 < s1.size) (hw : (wordL s1.data.toList).1 = 0) : wordsOf s = (none, p1) := by
  rw [h.told]
  unfold ofA
  rw [if_neg (ne_nil_of h0), if_pos hw]
  rfl
theorem told_more {w : World} {s : ByteArray} {v : Value} {wr : World} {s1 : ByteArray} {p1 : Pl} {acc : List Word} {f : Nat} (h : WI w s v wr s1 p1 acc f) (h0 : 0 < s1.size) (n : Nat) (hn : (wordL s1.data.toList).1 = n) (hw : n ≠ 0)
    (s2 : ByteArray) (p2 : Pl) (h2 : s2.data.toList = (skipS false (s1.data.toList.drop n) (adv p1 (s1.data.toList.take n))).1) (h3 : p2 = (skipS false (s1.data.toList.drop n) (adv p1 (s1.data.toList.take n))).2) :
    s2.size + n ≤ s1.size ∧ ∃ f', s2.size ≤ f' ∧ wordsOf s = ((ofA f' s2.data.toList p2).1.map ((acc ++ [⟨(wordL s1.data.toList).2, bytes (s1.data.toList.take n), p1.1, p1.2⟩]) ++ ·), (ofA f' s2.data.toList p2).2) := by
  have hl : s1.data.toList.length = s1.size := Array.length_toList
  have hl2 : s2.data.toList.length = s2.size := Array.length_toList
  have hsk := skipS_len false (s1.data.toList.drop n) (adv p1 (s1.data.toList.take n))
  have hwl := wordL_le s1.data.toList
  rw [← h2, List.length_drop, hl, hl2] at hsk
  have hf := h.fuel
  refine ⟨by omega, f - 1, by omega, ?_⟩
  rw [h.told]
  conv => lhs; unfold ofA
  obtain ⟨f', rfl⟩ : ∃ f', f = f' + 1 := ⟨f - 1, by omega⟩
  rw [if_neg (ne_nil_of h0), if_neg (by omega), hn, ofL_succ, h2, h3]
  simp [Option.map_map, Function.comp_def, List.append_assoc]

theorem row_keeps {w5 w6 : World} {o : Obj} {b i : Nat} {v u : Value} (h : (w5.alloc o).grownBy w6 v.ownBlock) (hc : w5.cell? ⟨b, i, none⟩ = some u) (hv : v.ownBlock ≠ some b) : w6.cell? ⟨b, i, none⟩ = some u := by
  have hl := World.block_lt_of_cell? w5 _ hc
  rw [h.cell_far ⟨b, i, none⟩ (by simp; exact Nat.lt_succ_of_lt hl) (Ne.symm hv), World.cell?_alloc_lt _ _ _ hl]
  exact hc
theorem takes_keeps {w2 w5 : World} {cs : Array Value} {t : TypeId} {g : Nat} (h : (w2.alloc (.cells cs t)).drew.grownBy w5 (some g)) (hg : g < w2.heap.size) (i : Nat) (hi : i < cs.size) : w5.cell? ⟨w2.heap.size, i, none⟩ = some (cs[i]'hi) := by
  rw [h.cell_far ⟨w2.heap.size, i, none⟩ (by simp) (by intro e; injection e with e; simp at e; omega), World.cell?_drew]
  have := (Blk.new w2 t cs).cell i
  rw [this, Array.getElem?_eq_getElem hi]
set_option maxRecDepth 100000 in
set_option maxHeartbeats 4000000 in
theorem of_short (s : ByteArray) (h : ¬ 1048576 < s.size) (w : World) (hG : Glob w) (h7 : 7 ≤ w.heap.size) : Calls Tryz.prog 5 #[.string s] w (WordsPost w s) := by
  have hl : ¬ (1048576 : Int) < (s.size : Int) := by omega
  have HG := Lib.hid hG
  clear hG
  go_enter Tryz.func5, Tryz.ntmps5
  go_wp2_with fail
  have hb0 : Below w.heap.size w ((w.alloc (Obj.cells #[Value.int IntKind.i64 0, Value.int IntKind.i64 0] 25)).alloc (Obj.cells #[Value.string s, Value.int IntKind.i64 1, Value.int IntKind.i64 1] 54)) :=
    ((Below.refl _ _).alloc (Nat.le_refl _) _).alloc (by simp) _
  have hrb : RB ((w.alloc (Obj.cells #[Value.int IntKind.i64 0, Value.int IntKind.i64 0] 25)).alloc (Obj.cells #[Value.string s, Value.int IntKind.i64 1, Value.int IntKind.i64 1] 54)) (w.heap.size + 1) s (1, 1) := by
    have := Blk.new (w.alloc (Obj.cells #[Value.int IntKind.i64 0, Value.int IntKind.i64 0] 25)) 54 #[Value.string s, Value.int IntKind.i64 1, Value.int IntKind.i64 1]
    show Blk _ _ _ _
    simpa [World.size_alloc] using this
  have hat : Blk ((w.alloc (Obj.cells #[Value.int IntKind.i64 0, Value.int IntKind.i64 0] 25)).alloc (Obj.cells #[Value.string s, Value.int IntKind.i64 1, Value.int IntKind.i64 1] 54)) w.heap.size 25 #[.int .i64 0, .int .i64 0] := (Blk.new w _ _).alloc _
  refine (skips_calls (w.heap.size + 1) s (by omega) (1, 1) ⟨by decide, by decide, by simp; omega, by simp; omega⟩ _ (HG.out.below hb0) (by omega) hrb).mono ?_
  rintro e w1 ⟨rfl, ⟨s0, hs1, hs2, hs3, hs4⟩, hg1⟩
  have hwi : WI w s (.slice none 0 0) w1 s0 (skipS false s.data.toList (1, 1)).2 [] s.size :=
    ⟨hs1, hs3, hat.grown hg1 (by intro e; injection e; omega), World.ownsRow_nil _ _ _ _, by simpa using hs4, by omega, told_start s s0 hs2, hb0.trans (below_of_only hg1 (by omega) (by simp; omega))⟩
  have HW := Lib.hid hwi
  clear hb0 hrb hat hs1 hs2 hs3 hs4 hg1 hwi
  go_wp2_with fail
  go_loopw [2] (fun v wr => ∃ s1 p1 acc f, WI w s v wr s1 p1 acc f) (fun _ wr => rsize wr (w.heap.size + 1))
  case atStart => exact ⟨_, _, _, _, HW.out⟩
  case round =>
    obtain ⟨s1, p1, acc, f, hwi⟩ := hrel
    have hsz1 : s1.size ≤ 1048576 := by have := hwi.len; omega
    have hacc : acc.length ≤ 1048576 := by have := hwi.len; omega
    have h0 := hwi.rb.cell 0
    have h1 := hwi.rb.cell 1
    have h2 := hwi.rb.cell 2
    simp at h0 h1 h2
    have HI := Lib.hid hwi
    clear hwi HW
    by_cases hpos : 0 < s1.size
    · have hemp := size_pos_of hpos
      obtain ⟨n, hn⟩ : ∃ n, (wordL s1.data.toList).1 = n := ⟨_, rfl⟩
      obtain ⟨k, hk⟩ : ∃ k, (wordL s1.data.toList).2 = k := ⟨_, rfl⟩
      have hnl := wordL_le s1.data.toList
      rw [hn, show s1.data.toList.length = s1.size from Array.length_toList] at hnl
      go_wp2_with fail
      refine (word_calls s1 hpos (by omega) _ (HG.out.below HI.out.bel)).mono ?_
      rintro e w2 ⟨rfl, hb2⟩
      rw [hn, hk]
      have HN := Lib.hid hn
      have HK := Lib.hid hk
      have hrb2 := HI.out.rb.belowW hb2
      have hat2 := HI.out.at_.belowW hb2
      have hown2 := own_below HI.out.own hb2
      have hbel2 := HI.out.bel.trans (hb2.mono HI.out.bel.size)
      have h1 := hrb2.cell 1
      have h2 := hrb2.cell 2
      have h0 := hrb2.cell 0
      have a0 := hat2.cell 0
      have a1 := hat2.cell 1
      have f0 := hat2.frozen 0
      have f1 := hat2.frozen 1
      simp at h0 h1 h2 a0 a1
      have HRB := Lib.hid hrb2
      have HAT := Lib.hid hat2
      have HOWN := Lib.hid hown2
      have HBEL := Lib.hid hbel2
      clear hrb2 hat2 hown2 hbel2 hb2 hn hk
      by_cases hn0 : n = 0
      · have hz : ((n : Int) == 0) = true := by simp [hn0]
        have HT := Lib.hid (told_bad HI.out hpos (by rw [HN.out]; exact hn0))
        clear hn0
        go_wp2_with fail
        go_region
        go_wp2
        refine bodyPost_ret (v := .tuple #[.slice none 0 0, .agg #[.int .i64 p1.1, .int .i64 p1.2], .int .i64 11]) (by simp [results, Tryz.results5, go_sem, a0, a1]) rfl ?_
        refine ⟨?_, ?_⟩
        · exact ((HBEL.out.setCell (p := ⟨w.heap.size, 0, none⟩) (Nat.le_refl _) _).setCell (p := ⟨w.heap.size, 1, none⟩) (Nat.le_refl _) _).drew
        · rw [if_neg (by assumption), HT.out]
      · have hz : ((n : Int) == 0) = false := by simp [hn0]
        have HN0 := Lib.hid hn0
        clear hn0
        have hpl : 0 ≤ p1.1 ∧ p1.1 ≤ 1000000000000000 ∧ 0 ≤ p1.2 ∧ p1.2 ≤ 1000000000000000 := by have := HI.out.pb.l0; have := HI.out.pb.c0; have := HI.out.pb.l1; have := HI.out.pb.c1; omega
        have HPL := Lib.hid hpl
        have hv := own_blk_ne HOWN.out HRB.out (by decide)
        have HV := Lib.hid hv
        clear hpl hv h0 h1 h2 a0 a1 f0 f1
        have h1 := HRB.out.cell 1
        have h2 := HRB.out.cell 2
        simp at h1 h2
        have hw2 : w.heap.size + 1 < w2.heap.size := HRB.out.lt
        have hvn : u2.ownBlock ≠ some w2.heap.size := fun e => by have := (own_lt HOWN.out _ e).2; omega
        have HVN := Lib.hid hvn
        clear hvn
        go_wp2_with fail
        go_region_held3 (fun W => W.cell? ⟨w2.heap.size, 0, none⟩ = some (.int .i64 p1.1) ∧ W.cell? ⟨w2.heap.size, 1, none⟩ = some (.int .i64 p1.2)) (first | exact ⟨d1, d2⟩ | exact ⟨c1, c2⟩ | go_keep) (first | (go_at_call 12; refine (takes_calls (w.heap.size + 1) n s1 hnl (by omega) p1 HPL.out _ (by exact (HRB.out.alloc _).drew)).mono ?_; rintro e w5 ⟨rfl, hb5, hg5⟩; have hlt5 := hg5.size; have c1 := takes_keeps hg5 hw2 0 (by simp); have c2 := takes_keeps hg5 hw2 1 (by simp); have O5 := Lib.hid (own_keep ((HOWN.out.alloc _).drew) hg5 HV.out); have B5 := Lib.hid hb5; have G5 := Lib.hid hg5; clear hb5 hg5) | (have _gd := hlt5; refine step_append_lies _ (by rfl) (.tmp 47) (.tmp 54) 23 (by rfl) w.heap.size 51 _ _ 4 40 Tryz.underlying23 (Classical.choose_spec (info_of info_word)).1 (Classical.choose_spec (info_of info_word)).2.1 (Classical.choose_spec (info_of info_word)).2.2.1 (Classical.choose_spec (info_of info_word)).2.2.2 rfl (by omega) _ acc.length (wordsV acc) (by rfl) (by exact O5.out.alloc _) ⟨w5.heap.size, 0, none⟩ 1 1 (wordV ⟨k, s1.extract 0 n, p1.1, p1.2⟩) (by rfl) (by rfl) (by exact World.news_of_block (cs := (wordV ⟨k, s1.extract 0 n, p1.1, p1.2⟩).toArray) (t := 51) (fr := (0, 0)) (heap_alloc_new w5 _)) (by simp [wordV, Value.oneCell']) (by omega) (by unfold maxLen; omega) (by omega) (by simp at hlt5 ⊢; omega) (w5.heap.size + 1) (by simp) ?_; intro g4 cap4 w6 hown6 hgrow6 hat6 hlt6; have d1 := row_keeps hgrow6 c1 HVN.out; have d2 := row_keeps hgrow6 c2 HVN.out))
        have hrb6 : Blk w6 (w.heap.size + 1) 54 #[.string (s1.extract n s1.size), .int .i64 (adv p1 (s1.data.toList.take n)).1, .int .i64 (adv p1 (s1.data.toList.take n)).2] := (B5.out.alloc _).grown hgrow6 (Ne.symm HV.out)
        have hv2 := own_blk_ne HOWN.out HAT.out (by decide)
        have hat6' : Blk w6 w.heap.size 25 #[.int .i64 0, .int .i64 0] := (((HAT.out.alloc _).drew.grown G5.out (by intro e; injection e; omega)).alloc _).grown hgrow6 (Ne.symm hv2)
        have hbel6 : Below w.heap.size w w6 := by
          have x1 : Below w.heap.size w w5 := ((HBEL.out.alloc HBEL.out.size _).drew).grown G5.out (by simp; have := HBEL.out.size; omega) (fun k hk => by injection hk with hk; omega)
          exact (x1.alloc x1.size _).grown hgrow6 (by simp; have := x1.size; omega) (fun k hk => (own_lt HOWN.out k hk).1)
        have hne6 := own_blk_ne hown6 hrb6 (by decide)
        have htl : (s1.data.toList.take n).length = n := by rw [List.length_take, show s1.data.toList.length = s1.size from Array.length_toList]; exact Nat.min_eq_left hnl
        have hpb6 : PB (adv p1 (s1.data.toList.take n)) (s1.extract n s1.size).size := by
          have := HI.out.pb.adv (s1.data.toList.take n) (by omega)
          rw [htl] at this
          rw [show (s1.extract n s1.size).size = s1.size - n by rw [ByteArray.size_extract]; omega]
          exact this
        have hsz6 : (s1.extract n s1.size).size ≤ 281474976710656 := by rw [ByteArray.size_extract]; omega
        have HRB6 := Lib.hid hrb6
        have HAT6 := Lib.hid hat6'
        have HBEL6 := Lib.hid hbel6
        have HNE6 := Lib.hid hne6
        have HO6 := Lib.hid hown6
        have HPB6 := Lib.hid hpb6
        clear hrb6 hat6' hbel6 hne6 hown6 hpb6 hgrow6 hat6 hlt6 hv2 d1 d2 c1 c2 htl
        go_wp2_with fail
        refine (skips_calls (w.heap.size + 1) (s1.extract n s1.size) hsz6 _ HPB6.out _ (HG.out.below HBEL6.out) (by omega) HRB6.out).mono ?_
        rintro e w7 ⟨rfl, ⟨s2, k1, k2, k3, k4⟩, hg7⟩
        rw [Lib.extract_to_end] at k1 k2 k3
        obtain ⟨m1, f', m2, m3⟩ := told_more HI.out hpos n HN.out HN0.out s2 _ k2 rfl
        have hnew : WI w s (.slice (some ⟨g4, 0, none⟩) (acc.length + 1) cap4) w7 s2 (skipS false (s1.data.toList.drop n) (adv p1 (s1.data.toList.take n))).2 (acc ++ [⟨k, s1.extract 0 n, p1.1, p1.2⟩]) f' := by
          refine ⟨k1, k3, HAT6.out.grown hg7 (by intro e; injection e; omega), ?_, ?_, m2, ?_, HBEL6.out.trans (below_of_only hg7 (by omega) HBEL6.out.size)⟩
          · have := own_keep HO6.out hg7 HNE6.out
            rw [wordsV_snoc, List.length_append]
            exact this
          · have := HI.out.len
            have := HN0.out
            simp only [List.length_append, List.length_cons, List.length_nil]
            omega
          · rw [extract_bytes, ← HK.out]
            exact m3
        have hm : rsize w7 (w.heap.size + 1) < rsize wr (w.heap.size + 1) := by
          rw [rsize_of hnew.rb, rsize_of HI.out.rb]
          have := HN0.out
          omega
        have HNEW := Lib.hid hnew
        clear hnew k1 k2 k3 k4 m1 m2 m3 hg7
        go_wp2
        go_roundw
        case rel => exact ⟨_, _, _, _, HNEW.out⟩
        case measure => exact hm
    · have hemp := size_zero_of (s := s1) (by omega)
      obtain ⟨i0, hi0, hz0, hz1, hz2⟩ := info_of info_word
      have hv := own_blk_ne HI.out.own HI.out.rb (by decide)
      have hv2 := own_blk_ne HI.out.own HI.out.at_ (by decide)
      have HV := Lib.hid hv
      have HV2 := Lib.hid hv2
      clear hv hv2
      go_wp2_with (at_builtin; refine wpList_append_lies _ rfl (.tmp 56) (.tmp 62) 23 rfl w.heap.size 51 i0 _ 4 40 Tryz.underlying23 hi0 hz0 hz1 hz2 rfl (by omega) _ acc.length (wordsV acc) rfl (HI.out.own.alloc _) ⟨wr.heap.size, 0, none⟩ 1 1 (wordV (endW p1)) rfl rfl (World.news_of_block (cs := #[.int .u8 3, .string ⟨#[]⟩, .int .i64 p1.1, .int .i64 p1.2]) (t := 51) (fr := (0, 0)) (heap_alloc_new wr _)) (by simp [wordV, Value.oneCell']) (by omega) (by unfold maxLen; omega) (by omega) (by simp; have := HI.out.bel.size; omega) (wr.heap.size + 1) (by simp) ?_; intro gg cap w3 hown3 hgrow3 hat3 hlt3)
      have hsn : wordsV (acc ++ [endW p1]) = wordsV acc ++ wordV (endW p1) := wordsV_snoc _ _
      have hr3 : Blk w3 (w.heap.size + 1) 54 #[.string s1, .int .i64 p1.1, .int .i64 p1.2] := (HI.out.rb.alloc _).grown hgrow3 (Ne.symm HV.out)
      have ha3 : Blk w3 w.heap.size 25 #[.int .i64 0, .int .i64 0] := (HI.out.at_.alloc _).grown hgrow3 (Ne.symm HV2.out)
      have hb3 : Below w.heap.size w w3 := (HI.out.bel.alloc HI.out.bel.size _).grown hgrow3 (by simp; have := HI.out.bel.size; omega) (fun k hk => (own_lt HI.out.own k hk).1)
      have hmk := fun W => run_make_rowN (P := Tryz.prog) 23 51 i0 _ Tryz.underlying23 hi0 hz0 .i64 .i64 0 (acc.length + 1) (by omega) (by rw [hz2]; omega) (by omega) W
      rw [hz1] at hmk
      have hmk2 : ∀ W : World, (Instr.makeSlice 23 (.int .i64 0) (.int .i64 ((acc.length : Int) + 1))).run Tryz.prog W = .ok (.slice (some ⟨W.heap.size, 0, none⟩) 0 (acc.length + 1)) (W.alloc (.cells (madeCells #[.int .u8 0, .string ⟨#[]⟩, .int .i64 0, .int .i64 0] ((acc.length + 1) * 4)) 51)) := hmk
      obtain ⟨cs, hcs⟩ : ∃ cs, madeCells #[.int .u8 0, .string ⟨#[]⟩, .int .i64 0, .int .i64 0] ((acc.length + 1) * 4) = cs := ⟨_, rfl⟩
      rw [hcs] at hmk2
      have hcsz : cs.size = (acc.length + 1) * 4 := by rw [← hcs, size_madeCells]
      have hmade := World.ownsRow_made (base := w.heap.size) (e := 51) (size := 4) w3 cs (acc.length + 1) hb3.size (by unfold maxLen; omega) hcsz
      have hnews := own_news (hown3.alloc (.cells cs 51))
      have h1 := hr3.cell 1
      have h2 := hr3.cell 2
      have a0 := ha3.cell 0
      have a1 := ha3.cell 1
      have f0 := ha3.frozen 0
      have f1 := ha3.frozen 1
      simp at h1 h2 a0 a1
      have HR3 := Lib.hid hr3
      have HA3 := Lib.hid ha3
      have HB3 := Lib.hid hb3
      have HM := Lib.hid hmade
      have HO3 := Lib.hid hown3
      have HNW := Lib.hid hnews
      have HSN := Lib.hid hsn
      have hlt1 : w.heap.size + 1 < w3.heap.size := hr3.lt
      have HE := Lib.hid (told_end HI.out (by omega))
      clear hr3 ha3 hb3 hmade hown3 hgrow3 hat3 hmk hcs hcsz hnews hsn hz0 hz1 hz2 hi0
      go_wp2_with fail
      go_region_law ((refine step_append_lies _ (by rfl) (.tmp 66) (.tmp 67) 23 (by rfl) w.heap.size 51 _ _ 4 40 Tryz.underlying23 (Classical.choose_spec (info_of info_word)).1 (Classical.choose_spec (info_of info_word)).2.1 (Classical.choose_spec (info_of info_word)).2.2.1 (Classical.choose_spec (info_of info_word)).2.2.2 rfl (by omega) _ 0 [] (by rfl) HM.out ⟨gg, 0, none⟩ (acc.length + 1) cap (wordsV acc ++ wordV (endW p1)) (by rfl) (by exact HO3.out.1) (by exact HNW.out) (by rw [← HSN.out]; exact wordsV_one _) (by omega) (by unfold maxLen; omega) (by omega) (by simp; omega) (w3.heap.size + 1) (by simp) ?_; intro g4 cap4 w4 hown4 hgrow4 hat4 hlt4; have q1 := far_after hgrow4 h1; have q2 := far_after hgrow4 h2; have q3 := far_after hgrow4 a0; have q4 := far_after hgrow4 a1; have q5 := far_frozen (b := w.heap.size) hgrow4 (by omega) f0; have q6 := far_frozen (b := w.heap.size) hgrow4 (by omega) f1))
      all_goals
        have hne4 : w.heap.size < g4 := by
          rcases hat4 with e | e
          · injection e with e; simp at e; omega
          · omega
        have HO4 := Lib.hid hown4
        have HG4 := Lib.hid hgrow4
        clear hown4 hgrow4 hat4 hlt4
        go_wp2
        refine bodyPost_ret (v := .tuple #[.slice (some ⟨g4, 0, none⟩) (acc.length + 1) cap4, .agg #[.int .i64 p1.1, .int .i64 p1.2], .int .i64 0]) (by simp [results, Tryz.results5, go_sem, q3, q4]) rfl ?_
        have hbel4 : Below w.heap.size w w4 := ((HB3.out.alloc HB3.out.size _).drew).grown HG4.out (by simp; have := HB3.out.size; omega) (fun k hk => by
          injection hk with hk; simp at hk; omega)
        refine ⟨?_, ?_⟩
        · first | exact (hbel4.setCell (p := ⟨w.heap.size, 0, none⟩) (Nat.le_refl _) _).setCell (p := ⟨w.heap.size, 1, none⟩) (Nat.le_refl _) _ | exact ((hbel4.setCell (p := ⟨w.heap.size, 0, none⟩) (Nat.le_refl _) _).setCell (p := ⟨w.heap.size, 1, none⟩) (Nat.le_refl _) _).drew
        · rw [if_neg (by assumption), HE.out]
          refine ⟨_, rfl, ?_⟩
          have h4 := HO4.out
          simp only [Nat.zero_add, List.nil_append] at h4
          rw [← HSN.out] at h4
          have hl : (acc ++ [endW p1]).length = acc.length + 1 := by simp
          rw [hl]
          exact own_keep (g := w.heap.size) h4 (only_set (g := w.heap.size) (only_set (g := w.heap.size) (World.grownBy.refl _ _) (.inl rfl) _) (.inl rfl) _) (by intro e; injection e with e; simp at e; omega)

/-- Of any text: its words, or where it is none. -/
theorem wordsOf_calls (s : ByteArray) (hs : s.size ≤ 281474976710656) (w : World) (hG : Glob w) (h7 : 7 ≤ w.heap.size) : Calls Tryz.prog 5 #[.string s] w (WordsPost w s) := by
  by_cases h : 1048576 < s.size
  · exact of_long s h hs w
  · exact of_short s h w hG h7
end Go.Proofs.YtlneonmbhgppeaaGreatDoor
