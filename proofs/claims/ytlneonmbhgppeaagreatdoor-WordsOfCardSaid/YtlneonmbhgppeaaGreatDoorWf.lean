/- The reader skips what is blank. Conditions: the tables lie as their texts lay them; the reader lies in a block of its own. -/
import Derived.Test.YtlneonmbhgppeaaGreatDoorWe
import Derived.Deep.LoopGhost
namespace Go.Proofs.YtlneonmbhgppeaaGreatDoor
open Go.RowKit

theorem adv_bound (t : List UInt8) : ∀ p : Pl, 1 ≤ p.1 → 1 ≤ p.2 → 1 ≤ (adv p t).1 ∧ 1 ≤ (adv p t).2 ∧ (adv p t).1 ≤ p.1 + t.length ∧ (adv p t).2 ≤ p.2 + t.length := by
  induction t with
  | nil => intro p h1 h2; simp [adv]; omega
  | cons b r ih =>
    intro p h1 h2
    show 1 ≤ (adv (adv1 p b) r).1 ∧ 1 ≤ (adv (adv1 p b) r).2 ∧ (adv (adv1 p b) r).1 ≤ _ ∧ (adv (adv1 p b) r).2 ≤ _
    have h3 : 1 ≤ (adv1 p b).1 ∧ 1 ≤ (adv1 p b).2 ∧ (adv1 p b).1 ≤ p.1 + 1 ∧ (adv1 p b).2 ≤ p.2 + 1 := by unfold adv1; split <;> simp <;> omega
    have := ih (adv1 p b) h3.1 h3.2.1
    simp only [List.length_cons]
    omega
/-- a place from which so many bytes may be gone through -/
structure PB (p : Pl) (n : Nat) : Prop where
  l0 : 1 ≤ p.1
  c0 : 1 ≤ p.2
  l1 : p.1 + n ≤ 1000000000000000
  c1 : p.2 + n ≤ 1000000000000000
theorem PB.adv {p : Pl} {n : Nat} (h : PB p n) (t : List UInt8) (ht : t.length ≤ n) : PB (adv p t) (n - t.length) := by
  have := adv_bound t p h.l0 h.c0
  have := h.l1
  have := h.c1
  exact ⟨by omega, by omega, by omega, by omega⟩

theorem skip_true (t rest : List UInt8) (h : ∀ b ∈ t, b ≠ 10) (hr : rest = [] ∨ ∃ r, rest = 10 :: r) (p : Pl) : skipS true (t ++ rest) p = skipS false rest (adv p t) := by
  induction t generalizing p with
  | nil =>
    rcases hr with rfl | ⟨r, rfl⟩
    · rfl
    · show skipS true (10 :: r) p = skipS false (10 :: r) p
      rw [show skipS true (10 :: r) p = skipS false r (adv1 p 10) from by simp [skipS]]
      simp only [skipS]
      rw [if_pos (by decide)]
  | cons b t ih =>
    have hb : b ≠ 10 := h b (by simp)
    show skipS true (b :: (t ++ rest)) p = _
    simp only [skipS, if_neg hb]
    exact ih (fun x hx => h x (by simp [hx])) _
theorem skip_remark (b : UInt8) (t rest : List UInt8) (hb : sortOf b.toNat = 5) (h : ∀ x ∈ t, x ≠ 10) (hr : rest = [] ∨ ∃ r, rest = 10 :: r) (p : Pl) : skipS false (b :: t ++ rest) p = skipS false rest (adv p (b :: t)) := by
  show skipS false (b :: (t ++ rest)) p = _
  have h1 : sortOf b.toNat ≠ 1 := by rw [hb]; decide
  simp only [skipS, if_neg h1, if_pos hb]
  exact skip_true t rest h hr _
theorem skip_blank (b : UInt8) (t : List UInt8) (hb : sortOf b.toNat = 1) (p : Pl) : skipS false (b :: t) p = skipS false t (adv p [b]) := by
  simp only [skipS, if_pos hb]
  rfl
theorem skip_stop (b : UInt8) (t : List UInt8) (h1 : sortOf b.toNat ≠ 1) (h5 : sortOf b.toNat ≠ 5) (p : Pl) : skipS false (b :: t) p = (b :: t, p) := by
  simp only [skipS, if_neg h1, if_neg h5]

/-- The reader's block. -/
def RB (w : World) (g : Nat) (s : ByteArray) (p : Pl) : Prop := Blk w g 54 #[.string s, .int .i64 p.1, .int .i64 p.2]

def rsize (w : World) (g : Nat) : Nat := match w.cell? ⟨g, 0, none⟩ with
  | some (.string s) => s.size
  | _ => 0
theorem rsize_of {w : World} {g : Nat} {s : ByteArray} {p : Pl} (h : RB w g s p) : rsize w g = s.size := by
  have := h.cell 0
  simp at this
  unfold rsize
  rw [this]
theorem Glob.only {w w' : World} {g : Nat} (h : Glob w) (hg7 : 7 ≤ g) (hb : w.grownBy w' (some g)) : Glob w' := h.keep fun i h7 hi => hb.block i hi (fun e => by injection e; omega)
theorem size_pos_of {s : ByteArray} (h : 0 < s.size) : s.toList.isEmpty = false := by
  rw [Lib.toList_data, List.isEmpty_eq_false_iff]
  intro e
  have : s.data.toList.length = 0 := by rw [e]; rfl
  rw [Array.length_toList] at this
  have : s.size = 0 := this
  omega
theorem size_zero_of {s : ByteArray} (h : s.size = 0) : s.toList.isEmpty = true := by
  rw [Lib.toList_data, List.isEmpty_iff]
  exact List.eq_nil_of_length_eq_zero (by rw [Array.length_toList]; exact h)

set_option maxHeartbeats 2000000 in
theorem skips_calls (g : Nat) (s : ByteArray) (hs : s.size ≤ 281474976710656) (p : Pl) (hp : PB p s.size) (w : World) (hG : Glob w) (hg7 : 7 ≤ g) (hb : RB w g s p) :
    Calls Tryz.prog 10 #[.pointer (some ⟨g, 0, none⟩)] w fun e w' => e = .returned (.tuple #[]) ∧
      (∃ s', RB w' g s' (skipS false s.data.toList p).2 ∧ s'.data.toList = (skipS false s.data.toList p).1 ∧ PB (skipS false s.data.toList p).2 s'.size ∧ s'.size ≤ s.size) ∧ w.grownBy w' (some g) := by
  have HG := Lib.hid hG
  have HB := Lib.hid hb
  have HP := Lib.hid hp
  clear hG hb hp
  go_enter Tryz.func10, Tryz.ntmps10
  go_wp2
  go_loopw [2] (fun _ wr => ∃ s1 p1, RB wr g s1 p1 ∧ skipS false s1.data.toList p1 = skipS false s.data.toList p ∧ PB p1 s1.size ∧ s1.size ≤ s.size ∧ w.grownBy wr (some g)) (fun _ wr => rsize wr g)
  case atStart => exact ⟨s, p, HB.out, rfl, HP.out, Nat.le_refl _, World.grownBy.refl _ _⟩
  case round =>
    obtain ⟨s1, p1, hb, he, hp, hz, hgr⟩ := hrel
    have h0 := hb.cell 0
    simp at h0
    have HB1 := Lib.hid hb
    have HE1 := Lib.hid he
    have HP1 := Lib.hid hp
    have HG1 := Lib.hid hgr
    have HGL := Lib.hid (HG.out.only hg7 hgr)
    clear hb he hp hgr
    by_cases hpos : 0 < s1.size
    · have hemp := size_pos_of hpos
      have h255 : ((s1[0]'hpos).toNat : Int) ≤ 255 := by have := (s1[0]'hpos).toNat_lt; omega
      obtain ⟨c, hc⟩ : ∃ c : Int, ((s1[0]'hpos).toNat : Int) = c := ⟨_, rfl⟩
      rw [hc] at h255
      have hc0 : 0 ≤ c := by omega
      have hdr := drop_at s1 0 hpos
      rw [List.drop_zero] at hdr
      obtain ⟨tl, htl⟩ : ∃ tl, s1.data.toList.drop (0 + 1) = tl := ⟨_, rfl⟩
      rw [htl] at hdr
      have HD := Lib.hid hdr
      have HTL := Lib.hid htl
      have hfin : ∀ (w2 : World) (n : Nat), n ≤ s1.size → skipS false (s1.data.toList.drop n) (adv p1 (s1.data.toList.take n)) = skipS false s1.data.toList p1 →
          Blk w2 g 54 #[.string (s1.extract n s1.size), .int .i64 (adv p1 (s1.data.toList.take n)).1, .int .i64 (adv p1 (s1.data.toList.take n)).2] →
          ∃ s3 p3, RB w2 g s3 p3 ∧ skipS false s3.data.toList p3 = skipS false s.data.toList p ∧ PB p3 s3.size ∧ s3.size ≤ s.size := by
        intro w2 n hn hsk hb2
        have hsz : (s1.extract n s1.size).size = s1.size - n := by rw [ByteArray.size_extract]; omega
        refine ⟨_, _, hb2, ?_, ?_, by omega⟩
        · rw [Lib.extract_to_end, hsk, HE1.out]
        · have := HP1.out.adv (s1.data.toList.take n) (by rw [List.length_take, Array.length_toList]; exact Nat.min_le_right _ _)
          rw [hsz]
          rwa [List.length_take, show s1.data.toList.length = s1.size from Array.length_toList, Nat.min_eq_left hn] at this
      have HF := Lib.hid hfin
      clear hfin hdr htl
      go_wp2_with fail
      refine (of_any c _ hc0 h255 HGL.out).mono ?_
      rintro e w1 ⟨rfl, hb1⟩
      have HBa := Lib.hid (HB1.out.belowW hb1)
      have HGa := Lib.hid (only_below HG1.out hb1)
      have HC := Lib.hid hc
      have ha0 : w1.cell? ⟨g, 0, none⟩ = some (.string s1) := by have := HBa.out.cell 0; simpa using this
      have hpp := HP1.out
      have hpl : 0 ≤ p1.1 ∧ p1.1 ≤ 1000000000000000 ∧ 0 ≤ p1.2 ∧ p1.2 ≤ 1000000000000000 := by have := hpp.l0; have := hpp.c0; have := hpp.l1; have := hpp.c1; omega
      have HPL := Lib.hid hpl
      clear hb1 hpl hpp h0
      by_cases k1 : sortOf c = 1
      · have t1 : (sortOf c == 1) = true := by simp [k1]
        have K1 := Lib.hid k1
        clear k1
        go_wp2_with fail
        refine (takes_calls g 1 s1 (by omega) (by omega) p1 HPL.out w1 HBa.out).mono ?_
        rintro e w2 ⟨rfl, hb2, hg2⟩
        have hf := HF.out w2 1 (by omega) (by
          rw [HD.out]
          simp only [List.drop_succ_cons, List.drop_zero, List.take_succ_cons, List.take_zero]
          exact (skip_blank _ _ (by rw [HC.out]; exact K1.out) p1).symm) hb2
        have HFF := Lib.hid hf
        have HGb := Lib.hid (only_trans HGa.out hg2 (fun b e => .inl e))
        have hm : rsize w2 g < rsize wr g := by
          rw [rsize_of (p := adv p1 (s1.data.toList.take 1)) hb2, rsize_of HB1.out, ByteArray.size_extract]; omega
        clear hb2 hg2 hf
        go_wp2
        go_roundw
        case rel =>
          obtain ⟨s3, p3, h1, h2, h3, h4⟩ := HFF.out
          exact ⟨s3, p3, h1, h2, h3, h4, HGb.out⟩
        case measure => exact hm
      · have t1 : (sortOf c == 1) = false := by simp [k1]
        by_cases k5 : sortOf c = 5
        · have t5 : (sortOf c == 5) = true := by simp [k5]
          have K5 := Lib.hid k5
          clear k1 k5
          go_wp2_with fail
          refine (Tryz.strings_IndexByte s1 10 w1).mono ?_
          rintro e w2 ⟨rfl, rfl⟩
          obtain ⟨i, hi⟩ : ∃ i : Int, Lib.indexByte s1.data.toList ((10 : Int).toNat.toUInt8) = i := ⟨_, rfl⟩
          have hge := Lib.indexByte_ge s1.data.toList ((10 : Int).toNat.toUInt8)
          rw [hi] at hge ⊢
          have HI := Lib.hid hi
          clear hi
          have hne : ∀ n : Nat, n ≤ s1.size → (∀ j, j < n → s1.data.toList[j]? ≠ some 10) → (n = s1.size ∨ s1.data.toList[n]? = some 10) → 0 < n → skipS false (s1.data.toList.drop n) (adv p1 (s1.data.toList.take n)) = skipS false s1.data.toList p1 := by
            intro n hn hno hat hn0
            have hx : s1.data.toList = s1.data.toList.take n ++ s1.data.toList.drop n := (List.take_append_drop n _).symm
            obtain ⟨m, rfl⟩ : ∃ m, n = m + 1 := ⟨n - 1, by omega⟩
            have htk : s1.data.toList.take (m + 1) = s1[0] :: tl.take m := by rw [HD.out]; rfl
            conv => rhs; rw [hx, htk]
            rw [htk]
            refine (skip_remark _ _ _ (by rw [HC.out]; exact K5.out) (fun b hb e => ?_) ?_ p1).symm
            · subst e
              obtain ⟨j, hj, he⟩ := List.getElem_of_mem hb
              rw [List.length_take] at hj
              refine hno (j + 1) (by omega) ?_
              rw [HD.out, List.getElem?_cons_succ]
              have : (tl.take m)[j]? = some 10 := by rw [List.getElem?_eq_getElem (by rw [List.length_take]; exact hj), he]
              rw [List.getElem?_take] at this
              split at this
              · exact this
              · cases this
            · rcases hat with hat | hat
              · left
                exact List.drop_eq_nil_of_le (by rw [Array.length_toList]; show s1.size ≤ _; omega)
              · right
                obtain ⟨hlt, he⟩ := List.getElem?_eq_some_iff.1 hat
                exact ⟨_, by rw [List.drop_eq_getElem_cons hlt, he]⟩
          have HNE := Lib.hid hne
          clear hne
          by_cases hneg : i < 0
          · have him : i = -1 := by omega
            subst him
            have hnone := Lib.indexByte_none HI.out
            have HNN := Lib.hid hnone
            clear hnone
            go_wp2_with fail
            refine (takes_calls g s1.size s1 (Nat.le_refl _) (by omega) p1 HPL.out _ HBa.out).mono ?_
            rintro e w3 ⟨rfl, hb2, hg2⟩
            have hf := HF.out w3 s1.size (Nat.le_refl _) (HNE.out s1.size (Nat.le_refl _) (fun j _ => HNN.out j) (.inl rfl) hpos) hb2
            have HFF := Lib.hid hf
            have HGb := Lib.hid (only_trans HGa.out hg2 (fun b e => .inl e))
            have hm : rsize w3 g < rsize wr g := by
              rw [rsize_of (p := adv p1 (s1.data.toList.take s1.size)) hb2, rsize_of HB1.out, ByteArray.size_extract]; omega
            clear hb2 hg2 hf
            go_wp2
            go_roundw
            case rel =>
              obtain ⟨s3, p3, h1, h2, h3, h4⟩ := HFF.out
              exact ⟨s3, p3, h1, h2, h3, h4, HGb.out⟩
            case measure => exact hm
          · obtain ⟨n, rfl⟩ : ∃ n : Nat, i = n := ⟨i.toNat, by omega⟩
            have hsome := Lib.indexByte_some HI.out
            have hlt : n < s1.size := by
              obtain ⟨h1, _⟩ := List.getElem?_eq_some_iff.1 hsome.1
              rw [Array.length_toList] at h1
              exact h1
            have hn0 : 0 < n := by
              rcases Nat.eq_zero_or_pos n with h | h
              · subst h
                exfalso
                have h1 := hsome.1
                rw [HD.out, List.getElem?_cons_zero] at h1
                injection h1 with h1
                have := K5.out
                rw [← HC.out, h1] at this
                exact absurd this (by decide)
              · exact h
            have HNN := Lib.hid hsome
            clear hsome
            go_wp2_with fail
            refine (takes_calls g n s1 (by omega) (by omega) p1 HPL.out _ HBa.out).mono ?_
            rintro e w3 ⟨rfl, hb2, hg2⟩
            have hf := HF.out w3 n (by omega) (HNE.out n (by omega) (fun j hj => HNN.out.2 j hj) (.inr HNN.out.1) hn0) hb2
            have HFF := Lib.hid hf
            have HGb := Lib.hid (only_trans HGa.out hg2 (fun b e => .inl e))
            have hm : rsize w3 g < rsize wr g := by
              rw [rsize_of (p := adv p1 (s1.data.toList.take n)) hb2, rsize_of HB1.out, ByteArray.size_extract]; omega
            clear hb2 hg2 hf
            go_wp2
            go_roundw
            case rel =>
              obtain ⟨s3, p3, h1, h2, h3, h4⟩ := HFF.out
              exact ⟨s3, p3, h1, h2, h3, h4, HGb.out⟩
            case measure => exact hm
        · have t5 : (sortOf c == 5) = false := by simp [k5]
          have K1 := Lib.hid k1
          have K5 := Lib.hid k5
          clear k1 k5
          go_wp2
          refine bodyPost_ret (results_none rfl _ _ _) rfl ?_
          have e2 : skipS false s.data.toList p = (s1.data.toList, p1) := by
            rw [← HE1.out, HD.out, skip_stop _ _ (by rw [HC.out]; exact K1.out) (by rw [HC.out]; exact K5.out)]
          refine ⟨rfl, ⟨s1, ?_, ?_, ?_, hz⟩, HGa.out⟩
          · rw [e2]; exact HBa.out
          · rw [e2]
          · rw [e2]; exact HP1.out
    · have hemp := size_zero_of (s := s1) (by omega)
      have hnil : s1.data.toList = [] := List.eq_nil_of_length_eq_zero (by rw [Array.length_toList]; show s1.size = 0; omega)
      have HN := Lib.hid hnil
      clear hnil
      go_wp2
      refine bodyPost_end (results_none rfl _ _ _) rfl ?_
      have e2 : skipS false s.data.toList p = ([], p1) := by
        rw [← HE1.out, HN.out]; rfl
      refine ⟨rfl, ⟨s1, ?_, ?_, ?_, hz⟩, HG1.out⟩
      · rw [e2]; exact HB1.out
      · rw [e2]; exact HN.out
      · rw [e2]; exact HP1.out
end Go.Proofs.YtlneonmbhgppeaaGreatDoor
