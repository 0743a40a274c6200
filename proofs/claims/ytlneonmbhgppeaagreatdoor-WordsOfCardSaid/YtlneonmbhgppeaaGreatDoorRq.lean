/- The word with which a text begins: the chapter's is the plain one. Plain: no program. -/
import Derived.Test.YtlneonmbhgppeaaGreatDoorRp
import Derived.Lib.Split
namespace Go.Proofs.YtlneonmbhgppeaaGreatDoor
open Go.RowKit Go.Proofs.YtlneonmbhgppeaaGreatDoorW.PrintWords Go.Proofs.YtlneonmbhgppeaaGreatDoor.PWordsOf
set_option linter.unusedVariables false
set_option linter.unusedSimpArgs false
namespace Rp
theorem word_l0 (s : ByteArray) (hs : s.size < 1000) : ∀ (r : List UInt8) (i k : Nat), s.data.toList.drop i = r → i ≤ s.size → r.length < k →
    cartoucheref20_word.l0 k s (i : Int) = some (if 32 < i + lw prNm r then (0, 0) else (((i + lw prNm r : Nat) : Int), 0)) := by
  intro r
  induction r with
  | nil =>
    intro i k hd hi hk
    obtain ⟨k, rfl⟩ : ∃ m, k = m + 1 := ⟨k - 1, by simp at hk; omega⟩
    have := at_nil hd
    rw [cartoucheref20_word.l0, if_neg (by omega)]
    have e : lw prNm [] = 0 := rfl
    rw [e]
    by_cases h : 32 < i
    · rw [if_pos (by omega), if_pos (by omega)]
    · rw [if_neg (by omega), if_neg (by omega)]; rfl
  | cons b r ih =>
    intro i k hd hi hk
    simp at hk
    obtain ⟨k, rfl⟩ : ∃ m, k = m + 1 := ⟨k - 1, by omega⟩
    obtain ⟨h1, h2, h3⟩ := bt_at_cons hd
    rw [cartoucheref20_word.l0, if_pos (by omega), if_pos (by omega), h1, letter_eq, digit_eq, lw_step, prNm_eq, w64 _ (by omega) (by omega)]
    have ih' := ih (i + 1) k h3 (by omega) (by omega)
    simp only [Int.natCast_add i 1, Int.natCast_one] at ih'
    simp only [Option.bind_some]
    have e95 : ((b.toNat : Int) = 95) ↔ b = 95 := toInt_eq b 95 (by omega)
    have hx : i + (lw prNm r + 1) = i + 1 + lw prNm r := by omega
    by_cases hl : isLet b = true
    · rw [if_pos hl, ih', hl]
      simp only [Bool.true_or, if_true, hx]
    · rw [if_neg hl]
      simp only [Bool.not_eq_true] at hl
      by_cases hg : isDig b = true
      · rw [if_pos hg, ih', hl, hg]
        simp only [Bool.true_or, Bool.false_or, if_true, hx]
      · rw [if_neg hg]
        simp only [Bool.not_eq_true] at hg
        rw [hl, hg]
        by_cases h95 : b = 95
        · rw [if_pos (e95.2 h95), ih', h95]
          simp only [Bool.false_or, BEq.rfl, if_true, hx]
        · rw [if_neg (fun e => h95 (e95.1 e))]
          have hf : (b == 95) = false := by simp [h95]
          rw [hf]
          simp only [Bool.false_or, Bool.false_eq_true, if_false, Nat.add_zero]
          by_cases h : 32 < i
          · rw [if_pos (by omega), if_pos (by omega)]
          · rw [if_neg (by omega), if_neg (by omega)]
theorem word_l1 (s : ByteArray) (hs : s.size < 1000) : ∀ (r : List UInt8) (i k : Nat), s.data.toList.drop i = r → i ≤ s.size →
    cartoucheref20_word.l1 (k + 1 + lw prDg r) s (i : Int) = cartoucheref20_word.j2 k s ((i + lw prDg r : Nat) : Int) := by
  intro r
  induction r with
  | nil =>
    intro i k hd hi
    have := at_nil hd
    have e : lw prDg [] = 0 := rfl
    have ei : i + 0 = i := rfl
    rw [e, ei, Nat.add_zero, cartoucheref20_word.l1, if_neg (by omega)]
  | cons b r ih =>
    intro i k hd hi
    obtain ⟨h1, h2, h3⟩ := bt_at_cons hd
    have ih' := ih (i + 1) k h3 (by omega)
    simp only [Int.natCast_add i 1, Int.natCast_one] at ih'
    rw [lw_step, prDg_eq]
    by_cases hg : isDig b = true
    · rw [if_pos hg, show k + 1 + (lw prDg r + 1) = (k + 1 + lw prDg r) + 1 by omega, cartoucheref20_word.l1, if_pos (by omega), if_pos (by omega), h1, digit_eq]
      simp only [Option.bind_some]
      rw [if_pos hg, w64 _ (by omega) (by omega), ih']
      congr 1
      omega
    · have ei : i + 0 = i := rfl
      rw [if_neg hg, ei, Nat.add_zero, cartoucheref20_word.l1, if_pos (by omega), if_pos (by omega), h1, digit_eq]
      simp only [Option.bind_some]
      rw [if_neg hg]
theorem digs (l : List UInt8) : ∀ x ∈ l.take (lw prDg l), isDig x = true := by
  induction l with
  | nil => simp
  | cons b r ih =>
    rw [lw_step, prDg_eq]
    split
    · rename_i h
      intro x hx
      rw [List.take_succ_cons] at hx
      rcases List.mem_cons.1 hx with e | e
      · rw [e]; exact h
      · exact ih x e
    · simp
/-- the numbers' end: n digits, the first is b -/
def numEnd (d : List UInt8) (b : UInt8) : Int × Int := if (decide (1 < d.length) && b == 48) || decide (20 < d.length) then (0, 1) else if (numS 0 d).isSome then ((d.length : Int), 1) else (0, 1)
theorem word_j3 (s : ByteArray) (hs : s.size < 1000) (n k : Nat) (hn : n ≤ s.size) (hk : n + 1 < k) (c : Bool) (hd : ∀ x ∈ s.data.toList.take n, isDig x = true) :
    cartoucheref20_word.j3 k s (n : Int) c = some (if c then (0, 1) else if (numS 0 (s.data.toList.take n)).isSome then ((n : Int), 1) else (0, 1)) := by
  obtain ⟨k, rfl⟩ : ∃ m, k = m + 1 := ⟨k - 1, by omega⟩
  rw [cartoucheref20_word.j3]
  cases c with
  | true => simp
  | false =>
    have he : (s.extract 0 n).data.toList = s.data.toList.take n := Lib.extract_from_zero s n
    have hz : (s.extract 0 n).size = n := by
      have : (s.extract 0 n).data.toList.length = n := by rw [he, List.length_take]; exact Nat.min_eq_left hn
      exact this
    have := number_l (s.extract 0 n) (by omega) (s.data.toList.take n) 0 k 0 (by rw [he]; rfl) hd (by omega) (by rw [List.length_take]; omega)
    simp only [Bool.false_eq_true, if_false]
    rw [if_pos (by omega), if_pos (by omega), Int.toNat_natCast]
    unfold cartoucheref20_Number.f
    have e0 : ((0 : Nat) : Int) = 0 := rfl
    rw [e0] at this
    rw [this]
    cases numS 0 (s.data.toList.take n) <;> simp
theorem word_j2 (s : ByteArray) (hs : s.size < 1000) (b : UInt8) (r : List UInt8) (hsb : s.data.toList = b :: r) (n k : Nat) (h1 : 1 ≤ n) (hn : n ≤ s.size) (hk : n + 2 < k) (hd : ∀ x ∈ s.data.toList.take n, isDig x = true) :
    cartoucheref20_word.j2 k s (n : Int) = some (numEnd (s.data.toList.take n) b) := by
  obtain ⟨k, rfl⟩ : ∃ m, k = m + 1 := ⟨k - 1, by omega⟩
  have hl : (s.data.toList.take n).length = n := by rw [List.length_take]; exact Nat.min_eq_left hn
  have hb := (bt_at_cons (s := s) (i := 0) (b := b) (r := r) hsb)
  have hb1 : bt s 0 = b.toNat := hb.1
  have e48 : ((b.toNat : Int) = 48) ↔ b = 48 := toInt_eq b 48 (by omega)
  unfold numEnd
  rw [cartoucheref20_word.j2, hl]
  have hdec : decide ((n : Int) > 20) = decide (20 < n) := by rw [decide_eq_decide]; omega
  rw [hdec]
  by_cases h : 1 < n
  · rw [if_pos (by omega), if_pos (by omega), hb1]
    by_cases h48 : b = 48
    · rw [if_pos (e48.2 h48), word_j3 s hs n k hn (by omega) _ hd, h48]
      simp [h]
    · rw [if_neg (fun e => h48 (e48.1 e)), word_j3 s hs n k hn (by omega) _ hd]
      have hf : (b == 48) = false := by simp [h48]
      rw [hf]
      simp
  · rw [if_neg (by omega), word_j3 s hs n k hn (by omega) _ hd]
    simp [h]

/-- the word with which a text begins, from the first 42 bytes -/
theorem word_eq (s : ByteArray) (b : UInt8) (l : List UInt8) (hsb : s.data.toList = (b :: l).take 42) (k : Nat) (hk : 200 < k) :
    cartoucheref20_word.f k s = some (((wordL (b :: l)).1 : Int), (wordL (b :: l)).2) := by
  have hz : s.size = min 42 (l.length + 1) := by
    have : s.data.toList.length = min 42 (l.length + 1) := by rw [hsb, List.length_take]; rfl
    exact this
  have hsb' : s.data.toList = b :: l.take 41 := hsb
  have hb := (bt_at_cons (s := s) (i := 0) (b := b) (r := l.take 41) hsb')
  have hb1 : bt s 0 = b.toNat := hb.1
  have hd1 : s.data.toList.drop 1 = l.take 41 := hb.2.2
  have h2 := sort_2 b
  have h3 := sort_3 b
  have h4 := sort_4 b
  unfold cartoucheref20_word.f
  rw [if_pos (by omega), hb1, letter_eq, digit_eq]
  simp only [Option.bind_some]
  simp only [wordL]
  by_cases hl : isLet b = true
  · rw [hl] at h2
    have n2 : sortOf b.toNat = 2 := by simpa using h2
    rw [if_pos hl, if_pos n2]
    have := word_l0 s (by omega) (l.take 41) 1 k hd1 (by omega) (by rw [List.length_take]; omega)
    have e1 : ((1 : Nat) : Int) = 1 := rfl
    rw [e1] at this
    rw [this, lw_take]
    unfold nameN
    rw [lw_step, prNm_eq, hl]
    simp only [Bool.true_or, if_true]
    by_cases h : 32 < lw prNm l + 1
    · rw [if_pos (by omega), if_pos (by omega)]; rfl
    · rw [if_neg (by omega), if_neg (by omega)]
      congr 2
      omega
  · rw [if_neg hl]
    simp only [Bool.not_eq_true] at hl
    rw [hl] at h2
    have n2 : ¬ sortOf b.toNat = 2 := by simpa using h2
    rw [if_neg n2]
    by_cases hg : isDig b = true
    · rw [hg] at h3
      have n3 : sortOf b.toNat = 3 := by simpa using h3
      rw [if_pos hg, if_pos n3]
      have hw : lw prDg (b :: l.take 41) = 1 + lw prDg (l.take 41) := by rw [lw_step, prDg_eq, if_pos hg]; omega
      have hw2 : lw prDg (b :: l) = 1 + lw prDg l := by rw [lw_step, prDg_eq, if_pos hg]; omega
      have hle := lw_le prDg (l.take 41)
      have hle2 := lw_le prDg l
      rw [List.length_take] at hle
      have hj := word_l1 s (by omega) (l.take 41) 1 (k - 1 - lw prDg (l.take 41)) hd1 (by omega)
      have e1 : ((1 : Nat) : Int) = 1 := rfl
      rw [e1, show k - 1 - lw prDg (l.take 41) + 1 + lw prDg (l.take 41) = k by omega] at hj
      have hdg : ∀ x ∈ s.data.toList.take (1 + lw prDg (l.take 41)), isDig x = true := by
        rw [hsb', ← hw]; exact digs _
      rw [hj, word_j2 s (by omega) b _ hsb' (1 + lw prDg (l.take 41)) _ (by omega) (by omega) (by omega) hdg, hsb', ← hw]
      have hlt := lw_take prDg l 41
      have hdd := digs (b :: l)
      have hlen : ((b :: l).take (lw prDg (b :: l))).length = lw prDg (b :: l) := by rw [List.length_take]; simp; omega
      have hlen2 : ((b :: l.take 41).take (lw prDg (b :: l.take 41))).length = lw prDg (b :: l.take 41) := by rw [List.length_take]; simp; omega
      by_cases hbig : 20 < lw prDg (b :: l)
      · have hn := numOk_long _ hdd (by omega)
        unfold numEnd numN
        rw [hn, hlen2]
        have : 20 < lw prDg (b :: l.take 41) := by omega
        simp [this]
      · have hsame : lw prDg (b :: l.take 41) = lw prDg (b :: l) := by omega
        have htk : (b :: l.take 41).take (lw prDg (b :: l.take 41)) = (b :: l).take (lw prDg (b :: l)) := by
          rw [hsame, show b :: l.take 41 = (b :: l).take 42 from rfl, List.take_take, Nat.min_eq_left (by omega)]
        have hn := numOk_eq _ hdd b (l.take (lw prDg l)) (by rw [hw2, Nat.add_comm, List.take_succ_cons])
        unfold numEnd numN
        rw [htk, hn, hlen]
        have hd20 : decide (20 < lw prDg (b :: l)) = false := by simp; omega
        rw [hd20]
        cases h5 : (decide (1 < lw prDg (b :: l)) && b == 48) <;> cases h6 : (numS 0 ((b :: l).take (lw prDg (b :: l)))).isSome <;> simp
    · rw [if_neg hg]
      simp only [Bool.not_eq_true] at hg
      rw [hg] at h3
      have n3 : ¬ sortOf b.toNat = 3 := by simpa using h3
      rw [if_neg n3]
      have e60 : ((b.toNat : Int) = 60) ↔ b = 60 := toInt_eq b 60 (by omega)
      obtain ⟨k, rfl⟩ : ∃ m, k = m + 1 := ⟨k - 1, by omega⟩
      have hone : ∀ c : Bool, cartoucheref20_word.j4 (k + 1) s c = some (if c then (2, 2) else if b ∈ marksL then (1, 2) else (0, 2)) := by
        intro c
        rw [cartoucheref20_word.j4]
        cases c
        · simp only [Bool.false_eq_true, if_false]
          rw [if_pos (by omega), hb1, single_eq b k (by omega)]
          simp only [Option.bind_some]
          by_cases hm : b ∈ marksL
          · simp [hm]
          · simp [hm]
        · simp
      by_cases h60 : b = 60
      · have hs4 : sortOf b.toNat = 4 := by rw [h60]; decide
        rw [if_pos (e60.2 h60), if_pos hs4]
        have hmem : b ∈ marksL := by rw [h60]; decide
        cases l with
        | nil =>
          simp at hz
          rw [if_neg (by omega), hone]
          unfold markN
          have hnp : ¬ [60, 61] <+: [b] := by rw [h60]; decide
          rw [if_neg hnp]
          simp [hmem]
        | cons c r =>
          have hb2 := (bt_at_cons (s := s) (i := 1) (b := c) (r := r.take 40) hd1)
          have hb3 : bt s 1 = c.toNat := hb2.1
          have e61 : ((c.toNat : Int) = 61) ↔ c = 61 := toInt_eq c 61 (by omega)
          simp at hz
          rw [if_pos (by omega), if_pos (by omega), hone, hb3]
          unfold markN
          by_cases h61 : c = 61
          · have : ((c.toNat : Int) == 61) = true := by rw [beq_iff_eq]; exact e61.2 h61
            have hnp : [60, 61] <+: b :: c :: r := by rw [h60, h61]; exact ⟨r, rfl⟩
            rw [this, if_pos hnp]
            simp
          · have : ((c.toNat : Int) == 61) = false := by
              rw [beq_eq_false_iff_ne]; exact fun e => h61 (e61.1 e)
            have hnp : ¬ [60, 61] <+: b :: c :: r := by
              rintro ⟨t, e⟩
              injection e with _ e
              injection e with e _
              exact h61 e.symm
            rw [this, if_neg hnp]
            simp [hmem]
      · rw [if_neg (fun e => h60 (e60.1 e)), hone]
        by_cases hm : b ∈ marksL
        · have : sortOf b.toNat = 4 := by simpa [hm] using h4
          rw [if_pos this]
          unfold markN
          have hnp : ¬ [60, 61] <+: b :: l := by
            rintro ⟨t, e⟩
            injection e with e _
            exact h60 e.symm
          rw [if_neg hnp]
          simp [hm]
        · have : sortOf b.toNat ≠ 4 := by simpa [hm] using h4
          rw [if_neg this]
          simp [hm]
end Rp
end Go.Proofs.YtlneonmbhgppeaaGreatDoor
