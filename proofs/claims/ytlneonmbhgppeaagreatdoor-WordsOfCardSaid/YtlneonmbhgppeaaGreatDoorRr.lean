/- The chapter's words of a text are the plain ones. Plain: no program. -/
import Derived.Test.YtlneonmbhgppeaaGreatDoorRq
import Derived.Test.YtlneonmbhgppeaaGreatDoorWg
namespace Go.Proofs.YtlneonmbhgppeaaGreatDoor
open Go.RowKit Go.Proofs.YtlneonmbhgppeaaGreatDoorW.PrintWords Go.Proofs.YtlneonmbhgppeaaGreatDoor.PWordsOf
set_option linter.unusedVariables false
set_option linter.unusedSimpArgs false
namespace Rp
def toS (x : Word) : S51 := ⟨x.kind, x.text, ⟨x.line, x.col⟩⟩
def res (acc : List S51) (o : Option (List Word) × Pl) : List S51 × Int × Int × Int := match o.1 with
  | some ws => (acc ++ ws.map toS, o.2.1, o.2.2, 0)
  | none => ([], o.2.1, o.2.2, 11)
def OM (m : Bool) (l : List UInt8) (p : Pl) : Option (List Word) × Pl := ofA (skipS m l p).1.length (skipS m l p).1 (skipS m l p).2
theorem ofA_more (f g : Nat) (l : List UInt8) (p : Pl) (hf : l.length ≤ f) (hg : l.length ≤ g) : ofA f l p = ofA g l p := by
  unfold ofA
  split
  · rfl
  · split
    · rfl
    · rename_i h1 h2
      have : l.length ≠ 0 := fun e => h1 (List.eq_nil_of_length_eq_zero e)
      have hd : (l.drop (wordL l).1).length < l.length := by rw [List.length_drop]; omega
      rw [ofL_more f g _ _ (by omega) (by omega)]
theorem OM_ofL (l : List UInt8) (p : Pl) (f : Nat) (hf : l.length < f) : ofL f l p = OM false l p := by
  obtain ⟨f, rfl⟩ : ∃ m, f = m + 1 := ⟨f - 1, by omega⟩
  have := skipS_len false l p
  rw [ofL_succ, OM]
  exact ofA_more _ _ _ _ (by omega) (by omega)
theorem OM_word (l : List UInt8) (p : Pl) (b : UInt8) (r : List UInt8) (hl : l = b :: r) (h1 : sortOf b.toNat ≠ 1) (h5 : sortOf b.toNat ≠ 5) :
    OM false l p = if (wordL l).1 = 0 then (none, p) else
      (((OM false (l.drop (wordL l).1) (adv p (l.take (wordL l).1))).1.map fun ws => ⟨(wordL l).2, bytes (l.take (wordL l).1), p.1, p.2⟩ :: ws), (OM false (l.drop (wordL l).1) (adv p (l.take (wordL l).1))).2) := by
  have hs : skipS false l p = (l, p) := by rw [hl, skip_stop b r h1 h5]
  have hne : l ≠ [] := by rw [hl]; simp
  unfold OM
  rw [hs]
  unfold ofA
  simp only
  rw [if_neg hne]
  split
  · rfl
  · rename_i h2
    have hd : (l.drop (wordL l).1).length < l.length := by
      rw [List.length_drop]
      have : l.length ≠ 0 := fun e => hne (List.eq_nil_of_length_eq_zero e)
      omega
    rw [OM_ofL _ _ _ hd]
    rfl
theorem lw_all (pr : Int → Bool) (l : List UInt8) : ∀ x ∈ l.take (lw pr l), pr x.toNat = true := by
  induction l with
  | nil => simp
  | cons b r ih =>
    rw [lw_step]
    split
    · rename_i h
      intro x hx
      rw [List.take_succ_cons] at hx
      rcases List.mem_cons.1 hx with e | e
      · rw [e]; exact h
      · exact ih x e
    · simp
/-- no word holds a line's end -/
theorem word_line (l : List UInt8) : ∀ x ∈ l.take (wordL l).1, x ≠ 10 := by
  intro x hx e
  subst e
  match l, hx with
  | [], hx => simp at hx
  | b :: r, hx =>
    simp only [wordL] at hx
    split at hx
    · simp only [nameN] at hx
      split at hx
      · simp at hx
      · have := lw_all prNm _ _ hx
        revert this; decide
    · split at hx
      · simp only [numN] at hx
        split at hx
        · have := lw_all prDg _ _ hx
          revert this; decide
        · simp at hx
      · split at hx
        · rename_i h4
          simp only [markN] at hx
          split at hx
          · rename_i h
            obtain ⟨t, ht⟩ := h
            rw [← ht] at hx
            simp at hx
          · simp at hx
            rw [← hx] at h4
            revert h4; decide
        · simp at hx
theorem adv_flat (t : List UInt8) : ∀ p : Pl, (∀ x ∈ t, x ≠ 10) → adv p t = (p.1, p.2 + t.length) := by
  induction t with
  | nil => intro p _; simp [adv]
  | cons b r ih =>
    intro p h
    have hb := h b (by simp)
    show adv (adv1 p b) r = _
    rw [ih _ (fun x hx => h x (by simp [hx]))]
    unfold adv1
    rw [if_neg hb]
    simp
    omega
structure Bd (p : Pl) (i : Nat) : Prop where
  l0 : 0 ≤ p.1
  l1 : p.1 ≤ i + 1
  c0 : 0 ≤ p.2
  c1 : p.2 ≤ i + 1
theorem Bd.adv {p : Pl} {i : Nat} (h : Bd p i) (b : UInt8) : Bd (adv1 p b) (i + 1) := by
  have := h.l0; have := h.l1; have := h.c0; have := h.c1
  unfold adv1
  split <;> constructor <;> simp <;> omega
theorem bytes_at (s : ByteArray) (i n : Nat) : s.extract i (i + n) = bytes ((s.data.toList.drop i).take n) := by
  have h := Lib.extract_toList s i (i + n)
  rw [Lib.toList_data] at h
  have h2 : i + n - i = n := by omega
  rw [h2] at h
  apply ByteArray.ext
  apply Array.ext'
  rw [h]
  rfl
theorem at_end (s : ByteArray) (hs : s.size ≤ 1048576) (i k : Nat) (acc : List S51) (p : Pl) (hd : s.data.toList.drop i = []) (hi : i ≤ s.size) (ha : acc.length ≤ i) :
    cartoucheref20_Of.l0 (k + 1) s acc (i : Int) p.1 p.2 = some (res acc (OM false [] p)) := by
  have := at_nil hd
  rw [cartoucheref20_Of.l0, if_neg (by omega), if_pos (by omega)]
  rfl
set_option maxHeartbeats 1000000 in
theorem of_l (s : ByteArray) (hs : s.size ≤ 1048576) : ∀ (n : Nat) (l : List UInt8), l.length = n →
    (∀ (i k : Nat) (acc : List S51) (p : Pl), s.data.toList.drop i = l → i ≤ s.size → acc.length ≤ i → Bd p i → 4 * n + 300 ≤ k → cartoucheref20_Of.l0 k s acc (i : Int) p.1 p.2 = some (res acc (OM false l p))) ∧
    (∀ (i k : Nat) (acc : List S51) (p : Pl), s.data.toList.drop i = l → i ≤ s.size → acc.length ≤ i → Bd p i → 4 * n + 301 ≤ k → cartoucheref20_Of.l1 k s acc (i : Int) p.1 p.2 = some (res acc (OM true l p))) := by
  intro n
  induction n using Nat.strongRecOn with
  | ind n ih =>
  intro l hl
  have first : ∀ (i k : Nat) (acc : List S51) (p : Pl), s.data.toList.drop i = l → i ≤ s.size → acc.length ≤ i → Bd p i → 4 * n + 300 ≤ k → cartoucheref20_Of.l0 k s acc (i : Int) p.1 p.2 = some (res acc (OM false l p)) := by
    intro i k acc p hd hi ha hb hk
    obtain ⟨k, rfl⟩ : ∃ m, k = m + 1 + 1 + 1 := ⟨k - 3, by omega⟩
    cases l with
    | nil => exact at_end s hs i _ acc p hd hi ha
    | cons b r =>
      obtain ⟨h1, h2, h3⟩ := bt_at_cons hd
      simp at hl
      have hb1 := hb.l0
      have hb2 := hb.l1
      have hb3 := hb.c0
      have hb4 := hb.c1
      have e32 : ((b.toNat : Int) = 32) ↔ b = 32 := toInt_eq b 32 (by omega)
      have e9 : ((b.toNat : Int) = 9) ↔ b = 9 := toInt_eq b 9 (by omega)
      have e10 : ((b.toNat : Int) = 10) ↔ b = 10 := toInt_eq b 10 (by omega)
      have e35 : ((b.toNat : Int) = 35) ↔ b = 35 := toInt_eq b 35 (by omega)
      have hs1 := sort_1 b
      have hs5 := sort_5 b
      have hstep : cartoucheref20_Of.l0 (k + 1 + 1 + 1) s acc (i : Int) p.1 p.2 = cartoucheref20_Of.j1 (k + 1 + 1) s acc (i : Int) (b.toNat : Int) (b == 32 || b == 9 || b == 10) p.1 p.2 := by
        rw [cartoucheref20_Of.l0, if_pos (by omega), if_pos (by omega), h1]
        by_cases c1 : b = 32
        · rw [if_pos (e32.2 c1)]; simp [c1]
        · rw [if_neg (fun e => c1 (e32.1 e))]
          by_cases c2 : b = 9
          · rw [if_pos (e9.2 c2)]; simp [c2]
          · rw [if_neg (fun e => c2 (e9.1 e))]
            have : ((b.toNat : Int) == 10) = (b == 10) := by
              rw [Bool.eq_iff_iff]; simp only [beq_iff_eq]; exact e10
            have f1 : (b == 32) = false := by simp [c1]
            have f2 : (b == 9) = false := by simp [c2]
            rw [this, f1, f2, Bool.false_or, Bool.false_or]
      rw [hstep, cartoucheref20_Of.j1]
      cases hbl : (b == 32 || b == 9 || b == 10) with
      | true =>
        rw [hbl] at hs1
        have h1s : sortOf b.toNat = 1 := by simpa using hs1
        have hOM : OM false (b :: r) p = OM false r (adv1 p b) := by
          unfold OM
          rw [skip_blank b r h1s]
          rfl
        have hr := (ih (n - 1) (by omega) r (by omega)).1 (i + 1) (k + 1) acc (adv1 p b) h3 (by omega) (by omega) (hb.adv b) (by omega)
        simp only [Int.natCast_add i 1, Int.natCast_one] at hr
        rw [if_pos rfl, hOM, ← hr, w64 _ (by omega) (by omega), w64 _ (by omega) (by omega), w64 _ (by omega) (by omega)]
        unfold adv1
        by_cases c : b = 10
        · rw [if_pos (e10.2 c), if_pos c]
        · rw [if_neg (fun e => c (e10.1 e)), if_neg c]
      | false =>
        rw [hbl] at hs1
        have h1s : sortOf b.toNat ≠ 1 := by simpa using hs1
        rw [if_neg (by simp)]
        simp only [Bool.or_eq_false_iff, beq_eq_false_iff_ne] at hbl
        by_cases c : b = 35
        · have h5s : sortOf b.toNat = 5 := by rw [c] at hs5 ⊢; simpa using hs5
          have hOM : OM false (b :: r) p = OM true r (adv1 p b) := by
            unfold OM
            simp only [skipS]
            rw [if_neg h1s, if_pos h5s]
          have hr := (ih (n - 1) (by omega) r (by omega)).2 (i + 1) k acc (adv1 p b) h3 (by omega) (by omega) (hb.adv b) (by omega)
          simp only [Int.natCast_add i 1, Int.natCast_one] at hr
          rw [if_pos (e35.2 c), hOM, ← hr, cartoucheref20_Of.l1, if_pos (by omega), if_pos (by omega), h1, if_neg (fun e => hbl.2 (e10.1 e)), w64 _ (by omega) (by omega), w64 _ (by omega) (by omega)]
          unfold adv1
          rw [if_neg hbl.2]
        · have h5s : sortOf b.toNat ≠ 5 := by
            have hf : (b == 35) = false := by simp [c]
            rw [hf] at hs5
            simpa using hs5
          have hmn : mn (s.size : Int) (wrap64 (wrap64 ((i : Int) + 32) + 10)) = ((min s.size (i + 42) : Nat) : Int) := by
            rw [w64 ((i : Int) + 32) (by omega) (by omega), w64 _ (by omega) (by omega)]
            unfold mn
            split <;> omega
          have hwin : (s.extract i (min s.size (i + 42))).data.toList = (b :: r).take 42 := by
            have h := Lib.extract_toList s i (min s.size (i + 42))
            rw [Lib.toList_data] at h
            rw [h, hd]
            have hlen : (b :: r).length = s.size - i := by
              rw [← hd, List.length_drop]; rfl
            by_cases hc : s.size ≤ i + 42
            · rw [Nat.min_eq_left hc, List.take_of_length_le (by omega), List.take_of_length_le (by omega)]
            · rw [Nat.min_eq_right (by omega)]
              congr 1
              omega
          have hw := word_eq _ b r hwin (k + 1) (by omega)
          have hle := wordL_le (b :: r)
          have hlen : (b :: r).length = s.size - i := by
            rw [← hd, List.length_drop]; rfl
          rw [if_neg (fun e => c (e35.1 e)), if_pos (by omega), hmn, if_pos (by omega), if_pos (by omega), Int.toNat_natCast, Int.toNat_natCast, hw]
          simp only [Option.bind_some]
          rw [OM_word (b :: r) p b r rfl h1s h5s]
          generalize hwl : wordL (b :: r) = wl at *
          by_cases hz : wl.1 = 0
          · rw [if_pos (by omega), if_pos hz]
            rfl
          · rw [if_neg (by omega), if_neg hz, w64 _ (by omega) (by omega), if_pos (by omega), if_pos (by omega), if_pos (by omega), w64 _ (by omega) (by omega)]
            have hline := word_line (b :: r)
            rw [hwl] at hline
            have hadv := adv_flat ((b :: r).take wl.1) p hline
            have htl : ((b :: r).take wl.1).length = wl.1 := by rw [List.length_take]; omega
            rw [htl] at hadv
            have hdd : s.data.toList.drop (i + wl.1) = (b :: r).drop wl.1 := by rw [← List.drop_drop, hd]
            have hdl : ((b :: r).drop wl.1).length = n - wl.1 := by rw [List.length_drop]; simp; omega
            have hx : ((i : Int) + (wl.1 : Int)).toNat = i + wl.1 := by omega
            have hr := (ih (n - wl.1) (by omega) ((b :: r).drop wl.1) hdl).1 (i + wl.1) (k + 1) (acc ++ [toS ⟨wl.2, bytes ((b :: r).take wl.1), p.1, p.2⟩]) (p.1, p.2 + wl.1) hdd (by omega) (by simp; omega) ⟨by simpa using hb1, by simp; omega, by simp; omega, by simp; omega⟩ (by omega)
            simp only [Int.natCast_add i wl.1] at hr
            rw [hadv, hx, bytes_at, hd]
            refine Eq.trans hr ?_
            unfold res
            cases (OM false ((b :: r).drop wl.1) (p.1, p.2 + (wl.1 : Int))).1 <;> simp
  refine ⟨first, ?_⟩
  intro i k acc p hd hi ha hb hk
  obtain ⟨k, rfl⟩ : ∃ m, k = m + 1 := ⟨k - 1, by omega⟩
  have hf := first i k acc p hd hi ha hb (by omega)
  cases l with
  | nil =>
    have := at_nil hd
    rw [cartoucheref20_Of.l1, if_neg (by omega), hf]
    rfl
  | cons b r =>
    obtain ⟨h1, h2, h3⟩ := bt_at_cons hd
    simp at hl
    have hb3 := hb.c0
    have hb4 := hb.c1
    have e10 : ((b.toNat : Int) = 10) ↔ b = 10 := toInt_eq b 10 (by omega)
    rw [cartoucheref20_Of.l1, if_pos (by omega), if_pos (by omega), h1]
    by_cases c : b = 10
    · rw [if_pos (e10.2 c), hf]
      have h1s : sortOf b.toNat = 1 := by rw [c]; decide
      have : OM true (b :: r) p = OM false (b :: r) p := by
        unfold OM
        simp only [skipS]
        rw [if_pos c, if_pos h1s]
      rw [this]
    · have hOM : OM true (b :: r) p = OM true r (adv1 p b) := by
        unfold OM
        simp only [skipS]
        rw [if_neg c]
      have hr := (ih (n - 1) (by omega) r (by omega)).2 (i + 1) k acc (adv1 p b) h3 (by omega) (by omega) (hb.adv b) (by omega)
      simp only [Int.natCast_add i 1, Int.natCast_one] at hr
      rw [if_neg (fun e => c (e10.1 e)), hOM, ← hr, w64 _ (by omega) (by omega), w64 _ (by omega) (by omega)]
      unfold adv1
      rw [if_neg c]
/-- the chapter's words of a text -/
theorem of_eq (s : ByteArray) : ∃ k, cartoucheref20_Of.f k s = some (if 1048576 < s.size then ([], 1, 1, 3) else res [] (wordsOf s)) := by
  refine ⟨4 * s.size + 300, ?_⟩
  unfold cartoucheref20_Of.f
  by_cases h : 1048576 < s.size
  · rw [if_pos (by omega), if_pos h]
  · rw [if_neg (by omega), if_neg h]
    have := (of_l s (by omega) s.size s.data.toList rfl).1 0 (4 * s.size + 300) [] (1, 1) rfl (by omega) (by simp) ⟨by simp, by simp, by simp, by simp⟩ (by omega)
    have hw : wordsOf s = OM false s.data.toList (1, 1) := OM_ofL _ _ _ (Nat.lt_succ_self s.data.toList.length)
    rw [hw]
    exact this
end Rp
end Go.Proofs.YtlneonmbhgppeaaGreatDoor
