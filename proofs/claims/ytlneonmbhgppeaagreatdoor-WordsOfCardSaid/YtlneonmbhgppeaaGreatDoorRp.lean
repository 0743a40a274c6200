/- The chapter's own words (the statements' side) are the plain ones. Plain: no program. -/
import Derived.Test.YtlneonmbhgppeaaGreatDoorPw
import Derived.Test.YtlneonmbhgppeaaGreatDoorWc
import Derived.Test.YtlneonmbhgppeaaGreatDoorRc
namespace Go.Proofs.YtlneonmbhgppeaaGreatDoor
open Go.RowKit Go.Proofs.YtlneonmbhgppeaaGreatDoorW.PrintWords Go.Proofs.YtlneonmbhgppeaaGreatDoor.PWordsOf
set_option linter.unusedVariables false
set_option linter.unusedSimpArgs false
namespace Rp

/-! ### bytes -/
def isLet (b : UInt8) : Bool := decide (97 ≤ b.toNat ∧ b.toNat ≤ 122 ∨ 65 ≤ b.toNat ∧ b.toNat ≤ 90)
def isDig (b : UInt8) : Bool := decide (48 ≤ b.toNat ∧ b.toNat ≤ 57)
theorem all_bytes (P : UInt8 → Prop) (h : ∀ n : Fin 256, P (UInt8.ofNat n.val)) (b : UInt8) : P b := by
  have := h ⟨b.toNat, b.toNat_lt⟩
  simpa using this
theorem letter_eq (b : UInt8) : cartoucheref20_letter.f b.toNat = some (isLet b) := by
  unfold cartoucheref20_letter.f isLet
  repeat' split
  all_goals (congr 1; rw [Bool.eq_iff_iff]; simp; try omega)
theorem digit_eq (b : UInt8) : cartoucheref20_digit.f b.toNat = some (isDig b) := by
  unfold cartoucheref20_digit.f isDig
  repeat' split
  all_goals (congr 1; rw [Bool.eq_iff_iff]; simp; try omega)
theorem sort_2 (b : UInt8) : decide (sortOf b.toNat = 2) = isLet b := all_bytes (fun b => decide (sortOf b.toNat = 2) = isLet b) (by decide +kernel) b
theorem sort_3 (b : UInt8) : decide (sortOf b.toNat = 3) = isDig b := all_bytes (fun b => decide (sortOf b.toNat = 3) = isDig b) (by decide +kernel) b
theorem sort_4 (b : UInt8) : decide (sortOf b.toNat = 4) = decide (b ∈ marksL) := all_bytes (fun b => decide (sortOf b.toNat = 4) = decide (b ∈ marksL)) (by decide +kernel) b
theorem sort_1 (b : UInt8) : decide (sortOf b.toNat = 1) = (b == 32 || b == 9 || b == 10) := all_bytes (fun b => decide (sortOf b.toNat = 1) = (b == 32 || b == 9 || b == 10)) (by decide +kernel) b
theorem sort_5 (b : UInt8) : decide (sortOf b.toNat = 5) = (b == 35) := all_bytes (fun b => decide (sortOf b.toNat = 5) = (b == 35)) (by decide +kernel) b
theorem prNm_eq (b : UInt8) : prNm b.toNat = (isLet b || isDig b || b == 95) := all_bytes (fun b => prNm b.toNat = (isLet b || isDig b || b == 95)) (by decide +kernel) b
theorem prDg_eq (b : UInt8) : prDg b.toNat = isDig b := all_bytes (fun b => prDg b.toNat = isDig b) (by decide +kernel) b
theorem toInt_eq (b : UInt8) (n : Nat) (hn : n < 256) : ((b.toNat : Int) = (n : Int)) ↔ b = UInt8.ofNat n := by
  constructor
  · intro h
    have h2 : b.toNat = n := by omega
    rw [← h2]; simp
  · rintro rfl
    simp [UInt8.toNat_ofNat', Nat.mod_eq_of_lt hn]
theorem lw_take (pr : Int → Bool) (l : List UInt8) (m : Nat) : lw pr (l.take m) = min (lw pr l) m := by
  induction l generalizing m with
  | nil => simp [lw]
  | cons b r ih =>
    cases m with
    | zero => simp [lw]
    | succ m =>
      rw [List.take_succ_cons, lw_step, lw_step, ih]
      split <;> omega

/-! ### a text's rest -/
theorem bt_at_cons {s : ByteArray} {i : Nat} {b : UInt8} {r : List UInt8} (h : s.data.toList.drop i = b :: r) : bt s (i : Int) = b.toNat ∧ i < s.size ∧ s.data.toList.drop (i + 1) = r := by
  have hl : i < s.data.toList.length := by
    rcases Nat.lt_or_ge i s.data.toList.length with h1 | h1
    · exact h1
    · rw [List.drop_eq_nil_of_le h1] at h; cases h
  have hs : i < s.size := hl
  refine ⟨?_, hs, ?_⟩
  · unfold bt
    rw [dif_pos (by simpa using hs)]
    rw [List.drop_eq_getElem_cons hl] at h
    injection h with h1 h2
    rw [← h1]
    rfl
  · rw [← List.drop_drop, h]; rfl
theorem at_nil {s : ByteArray} {i : Nat} (h : s.data.toList.drop i = []) : s.size ≤ i := by
  have := List.drop_eq_nil_iff.1 h
  exact this
theorem w64 (n : Int) (h0 : 0 ≤ n) (h1 : n < 9223372036854775808) : wrap64 n = n := by unfold wrap64; omega

theorem single_l (c : UInt8) : ∀ (r : List UInt8) (i k : Nat), marksL.drop i = r → r.length < k → cartoucheref20_single.l0 k c.toNat (i : Int) = some (decide (c ∈ r)) := by
  intro r
  induction r with
  | nil =>
    intro i k hd hk
    obtain ⟨k, rfl⟩ : ∃ m, k = m + 1 := ⟨k - 1, by simp at hk; omega⟩
    have : marksL.length ≤ i := List.drop_eq_nil_iff.1 hd
    have h16 : ¬ ((i : Int) < 16) := by simp [marksL] at this; omega
    rw [cartoucheref20_single.l0, if_neg h16]
    simp
  | cons b r ih =>
    intro i k hd hk
    simp at hk
    obtain ⟨k, rfl⟩ : ∃ m, k = m + 1 := ⟨k - 1, by omega⟩
    obtain ⟨h1, h2, h3⟩ := bt_at_cons (s := ⟨#[40, 41, 123, 125, 60, 62, 91, 93, 44, 59, 58, 46, 124, 64, 37, 45]⟩) (i := i) (b := b) (r := r) hd
    have h16 : ((i : Int) < 16) := by simp [ByteArray.size] at h2; omega
    rw [cartoucheref20_single.l0, if_pos h16, if_pos (by omega), h1]
    by_cases hc : b = c
    · subst hc
      rw [if_pos rfl]; simp
    · rw [if_neg (by
        intro e
        apply hc
        have : b.toNat = c.toNat := by omega
        rw [← UInt8.toNat_inj]; exact this), w64 _ (by omega) (by omega)]
      have := ih (i + 1) k h3 (by omega)
      simp only [Int.natCast_add, Int.natCast_one] at this
      rw [this]
      have hn : c ≠ b := fun e => hc e.symm
      simp [hn]
theorem single_eq (c : UInt8) (k : Nat) (hk : 16 < k) : cartoucheref20_single.f k c.toNat = some (decide (c ∈ marksL)) := single_l c marksL 0 k rfl (by simp [marksL]; omega)

/-! ### numbers -/
def numS : Nat → List UInt8 → Option Nat
  | n, [] => some n
  | n, b :: r => if (18446744073709551615 - (b.toNat - 48)) / 10 < n then none else numS (10 * n + (b.toNat - 48)) r
theorem number_l (s : ByteArray) (hs : s.size < 1000) : ∀ (r : List UInt8) (i k n : Nat), s.data.toList.drop i = r → (∀ b ∈ r, isDig b = true) → n ≤ 18446744073709551615 → r.length < k →
    cartoucheref20_Number.l0 k s (n : Int) (i : Int) = some (match numS n r with | some v => ((v : Int), true) | none => (0, false)) := by
  intro r
  induction r with
  | nil =>
    intro i k n hd _ hn hk
    obtain ⟨k, rfl⟩ : ∃ m, k = m + 1 := ⟨k - 1, by simp at hk; omega⟩
    have := at_nil hd
    rw [cartoucheref20_Number.l0, if_neg (by omega)]
    simp [numS]
  | cons b r ih =>
    intro i k n hd hr hn hk
    simp at hk
    obtain ⟨k, rfl⟩ : ∃ m, k = m + 1 := ⟨k - 1, by omega⟩
    obtain ⟨h1, h2, h3⟩ := bt_at_cons hd
    have hb := hr b (by simp)
    simp [isDig] at hb
    have hm : ((b.toNat : Int) - 48) % 256 = ((b.toNat - 48 : Nat) : Int) := by omega
    rw [cartoucheref20_Number.l0, if_pos (by omega), if_pos (by omega), h1, hm]
    by_cases hc : (18446744073709551615 - (b.toNat - 48)) / 10 < n
    · rw [if_pos (by omega), numS, if_pos hc]
    · have hv : 10 * n + (b.toNat - 48) ≤ 18446744073709551615 := by omega
      rw [if_neg (by omega), numS, if_neg hc, w64 _ (by omega) (by omega)]
      have e1 : IntKind.u64.wrap (10 * (n : Int)) = 10 * (n : Int) := by rw [IntKind.wrap_u64]; omega
      have e2 : IntKind.u64.wrap (10 * (n : Int) + ((b.toNat - 48 : Nat) : Int)) = ((10 * n + (b.toNat - 48) : Nat) : Int) := by rw [IntKind.wrap_u64]; omega
      rw [e1, e2]
      have := ih (i + 1) k (10 * n + (b.toNat - 48)) h3 (fun x hx => hr x (by simp [hx])) hv (by omega)
      simp only [Int.natCast_add i 1, Int.natCast_one] at this
      exact this
theorem numS_parse : ∀ (r : List UInt8) (n : Nat), (∀ b ∈ r, isDig b = true) → Lib.parseUintM 18446744073709551615 n r = match numS n r with | some v => .ok v | none => .range := by
  intro r
  induction r with
  | nil => intro n _; rfl
  | cons b r ih =>
    intro n hr
    have hb := hr b (by simp)
    simp [isDig] at hb
    rw [Lib.parseUintM, if_pos hb, numS]
    by_cases hc : (18446744073709551615 - (b.toNat - 48)) / 10 < n
    · rw [if_pos hc]
      split
      · rfl
      · rw [if_pos (by omega)]
    · rw [if_neg hc, if_neg (by omega), if_neg (by omega), ih _ (fun x hx => hr x (by simp [hx])), Nat.mul_comm n 10]
theorem numS_le : ∀ (r : List UInt8) (n u : Nat), n ≤ 18446744073709551615 → (∀ b ∈ r, isDig b = true) → numS n r = some u → u ≤ 18446744073709551615 := by
  intro r
  induction r with
  | nil => intro n u hn _ h; simp [numS] at h; omega
  | cons b r ih =>
    intro n u hn hr h
    have hb := hr b (by simp)
    simp [isDig] at hb
    rw [numS] at h
    split at h
    · cases h
    · exact ih _ _ (by omega) (fun x hx => hr x (by simp [hx])) h
theorem dec_step (n d : Nat) (hn : 1 ≤ n) (hd : d < 10) : Lib.decDigits (10 * n + d) = Lib.decDigits n ++ [UInt8.ofNat (48 + d)] := by
  rw [Lib.decDigits, dif_neg (by omega)]
  have h1 : (10 * n + d) / 10 = n := by omega
  have h2 : (10 * n + d) % 10 = d := by omega
  rw [h1, h2]
theorem byte_dig (b : UInt8) (h : 48 ≤ b.toNat ∧ b.toNat ≤ 57) : UInt8.ofNat (48 + (b.toNat - 48)) = b := by
  have : 48 + (b.toNat - 48) = b.toNat := by omega
  rw [this]; simp
theorem numS_dec : ∀ (r : List UInt8) (n u : Nat), 1 ≤ n → (∀ b ∈ r, isDig b = true) → numS n r = some u → Lib.decDigits u = Lib.decDigits n ++ r := by
  intro r
  induction r with
  | nil => intro n u hn _ h; simp [numS] at h; simp [h]
  | cons b r ih =>
    intro n u hn hr h
    have hb := hr b (by simp)
    simp [isDig] at hb
    rw [numS] at h
    split at h
    · cases h
    · rw [ih _ _ (by omega) (fun x hx => hr x (by simp [hx])) h, dec_step n _ hn (by omega), byte_dig b hb]
      simp
theorem dec_ne (u : Nat) : Lib.decDigits u ≠ [] := by
  intro h
  have := Lib.decDigits_length u
  have := Lib.nDigits_pos u
  rw [h] at *
  simp at *
  omega
theorem dec_nought (u : Nat) : ∀ t, Lib.decDigits u = 48 :: t → t = [] ∧ u = 0 := by
  induction u using Nat.strongRecOn with
  | ind u ih =>
    intro t h
    by_cases hu : u < 10
    · rw [Lib.decDigits_one hu] at h
      injection h with h1 h2
      refine ⟨h2.symm, ?_⟩
      have h3 := congrArg UInt8.toNat h1
      rw [UInt8.toNat_ofNat', Nat.mod_eq_of_lt (by omega)] at h3
      have : (48 : UInt8).toNat = 48 := rfl
      omega
    · rw [Lib.decDigits, dif_neg hu] at h
      obtain ⟨x, y, hx⟩ : ∃ x y, Lib.decDigits (u / 10) = x :: y := by
        cases e : Lib.decDigits (u / 10) with
        | nil => exact absurd e (dec_ne _)
        | cons x y => exact ⟨x, y, rfl⟩
      rw [hx] at h
      injection h with h1 h2
      have := ih (u / 10) (by omega) y (by rw [hx, h1])
      omega
/-- a row of digits is a number's own just if it has no needless nought and is one at all -/
theorem numOk_eq (d : List UInt8) (hd : ∀ b ∈ d, isDig b = true) (b : UInt8) (r : List UInt8) (hbr : d = b :: r) :
    (numOk d).isSome = (!(decide (1 < d.length) && b == 48) && (numS 0 d).isSome) := by
  unfold numOk Lib.parseUintB
  rw [if_neg (by rw [hbr]; simp)]
  have h64 : (2 : Nat) ^ 64 - 1 = 18446744073709551615 := by decide
  rw [h64, numS_parse d 0 hd]
  cases hn : numS 0 d with
  | none => simp
  | some u =>
    simp only
    have hb := hd b (by rw [hbr]; simp)
    simp [isDig] at hb
    by_cases h48 : b = 48
    · subst h48
      cases r with
      | nil =>
        rw [hbr] at hn
        simp [numS] at hn
        subst hn
        rw [hbr, Lib.decDigits_one (by omega)]
        simp
      | cons c r =>
        have : Lib.decDigits u ≠ d := by
          intro e
          have := (dec_nought u (c :: r) (by rw [e, hbr])).1
          cases this
        rw [if_neg this, hbr]
        simp
    · have he : Lib.decDigits u = d := by
        rw [hbr] at hn
        have hz : b.toNat ≠ 48 := by
          intro e
          apply h48
          rw [← UInt8.toNat_inj]; exact e
        rw [numS, if_neg (by omega)] at hn
        have := numS_dec r _ u (by omega) (fun x hx => hd x (by rw [hbr]; simp [hx])) hn
        rw [this, Lib.decDigits_one (by omega), hbr, Nat.mul_zero, Nat.zero_add, byte_dig b hb]
        rfl
      rw [if_pos he]
      simp [h48]
theorem numOk_long (d : List UInt8) (hd : ∀ b ∈ d, isDig b = true) (h20 : 20 < d.length) : (numOk d).isSome = false := by
  unfold numOk Lib.parseUintB
  rw [if_neg (by intro e; rw [e] at h20; simp at h20)]
  have h64 : (2 : Nat) ^ 64 - 1 = 18446744073709551615 := by decide
  rw [h64, numS_parse d 0 hd]
  cases hn : numS 0 d with
  | none => simp
  | some u =>
    simp only
    rw [if_neg]
    · rfl
    · intro e
      have hu := numS_le d 0 u (by omega) hd hn
      have hl := Lib.decDigits_length u
      rw [e] at hl
      by_cases h0 : u = 0
      · subst h0
        have := Lib.nDigits_small (u := 0) (by omega)
        omega
      · have := Lib.numDigits_eq u (by omega) (by omega)
        have h2 := this.1
        split at h2 <;> omega
end Rp
end Go.Proofs.YtlneonmbhgppeaaGreatDoor
