/- Words of a text as plain functions on lists of bytes: no program, no condition. -/
import Derived.Lib.ParseIntB
import Derived.Lib.ItoaNum
namespace Go.Proofs.YtlneonmbhgppeaaGreatDoor

def marksL : List UInt8 := [40, 41, 123, 125, 60, 62, 91, 93, 44, 59, 58, 46, 124, 64, 37, 45]
def sortOf (c : Int) : Int :=
  if 97 ≤ c ∧ c ≤ 122 then 2 else if 65 ≤ c ∧ c ≤ 90 then 2 else if 48 ≤ c ∧ c ≤ 57 then 3 else if 9 ≤ c ∧ c ≤ 10 then 1 else if 32 ≤ c ∧ c ≤ 32 then 1 else if 35 ≤ c ∧ c ≤ 35 then 5
  else if c.toNat.toUInt8 ∈ marksL then 4 else 0
def inMarks (c : Int) : Bool := decide (c.toNat.toUInt8 ∈ marksL)
structure Word where
  kind : Int
  text : ByteArray
  line : Int
  col : Int
abbrev Pl := Int × Int
def withinB (c : Int) (xs : List Int) : Bool := decide (c < 128) && xs.any fun x => sortOf c == x
def prNm (r : Int) : Bool := r == 95 || withinB r [2, 3]
def prDg (r : Int) : Bool := withinB r [3]
def lw (pr : Int → Bool) (l : List UInt8) : Nat := (l.takeWhile fun b => pr b.toNat).length
def numOk (l : List UInt8) : Option Nat := match Lib.parseUintB 64 l with
  | .ok u => if Lib.decDigits u = l then some u else none
  | _ => none
def nameN (l : List UInt8) : Nat := if lw prNm l > 32 then 0 else lw prNm l
def numN (l : List UInt8) : Nat := if (numOk (l.take (lw prDg l))).isSome then lw prDg l else 0
def markN (l : List UInt8) : Nat := if [60, 61] <+: l then 2 else 1
def wordL (l : List UInt8) : Nat × Int := match l with
  | [] => (0, 2)
  | b :: _ => if sortOf b.toNat = 2 then (nameN l, 0) else if sortOf b.toNat = 3 then (numN l, 1) else if sortOf b.toNat = 4 then (markN l, 2) else (0, 2)
def adv1 (p : Pl) (b : UInt8) : Pl := if b = 10 then (p.1 + 1, 1) else (p.1, p.2 + 1)
def adv (p : Pl) (t : List UInt8) : Pl := t.foldl adv1 p
def skipS : Bool → List UInt8 → Pl → List UInt8 × Pl
  | _, [], p => ([], p)
  | false, b :: r, p => if sortOf b.toNat = 1 then skipS false r (adv1 p b) else if sortOf b.toNat = 5 then skipS true r (adv1 p b) else (b :: r, p)
  | true, b :: r, p => if b = 10 then skipS false r (adv1 p b) else skipS true r (adv1 p b)
def bytes (l : List UInt8) : ByteArray := ⟨l.toArray⟩
def endW (p : Pl) : Word := ⟨3, bytes [], p.1, p.2⟩
def ofL : Nat → List UInt8 → Pl → Option (List Word) × Pl
  | 0, _, p => (some [endW p], p)
  | f + 1, l, p =>
    let q := skipS false l p
    if q.1 = [] then (some [endW q.2], q.2) else
    if (wordL q.1).1 = 0 then (none, q.2) else
    let r := ofL f (q.1.drop (wordL q.1).1) (adv q.2 (q.1.take (wordL q.1).1))
    (r.1.map fun ws => ⟨(wordL q.1).2, bytes (q.1.take (wordL q.1).1), q.2.1, q.2.2⟩ :: ws, r.2)

theorem adv_append (p : Pl) (a b : List UInt8) : adv p (a ++ b) = adv (adv p a) b := by simp [adv, List.foldl_append]
theorem skipS_len (m : Bool) (l : List UInt8) (p : Pl) : (skipS m l p).1.length ≤ l.length := by
  induction l generalizing m p with
  | nil => cases m <;> simp [skipS]
  | cons b r ih =>
    cases m
    · simp only [skipS]
      split
      · exact Nat.le_trans (ih _ _) (by simp)
      · split
        · exact Nat.le_trans (ih _ _) (by simp)
        · simp
    · simp only [skipS]
      split <;> exact Nat.le_trans (ih _ _) (by simp)
theorem lw_le (pr : Int → Bool) (l : List UInt8) : lw pr l ≤ l.length := by
  unfold lw
  induction l with
  | nil => simp
  | cons b r ih =>
    rw [List.takeWhile_cons]
    split <;> simp; omega
theorem wordL_le (l : List UInt8) : (wordL l).1 ≤ l.length := by
  match l with
  | [] => simp [wordL]
  | b :: r =>
    simp only [wordL]
    split
    · unfold nameN; have := lw_le prNm (b :: r); split <;> simp_all
    · split
      · unfold numN; have := lw_le prDg (b :: r); split <;> simp_all
      · split
        · unfold markN
          split
          · rename_i h; exact h.length_le
          · simp
        · simp
/-- More rounds than bytes tell the same. -/
theorem ofL_more (f : Nat) : ∀ (g : Nat) (l : List UInt8) (p : Pl), l.length < f → l.length < g → ofL f l p = ofL g l p := by
  induction f with
  | zero => intro g l p h; omega
  | succ f ih =>
    intro g l p h1 h2
    obtain ⟨g, rfl⟩ : ∃ m, g = m + 1 := ⟨g - 1, by omega⟩
    simp only [ofL]
    split
    · rfl
    · split
      · rfl
      · rename_i h3 h4
        have hs := skipS_len false l p
        have hd : ((skipS false l p).1.drop (wordL (skipS false l p).1).1).length < l.length := by
          rw [List.length_drop]
          have : (skipS false l p).1.length ≠ 0 := fun e => h3 (List.eq_nil_of_length_eq_zero e)
          omega
        rw [ih g _ _ (by omega) (by omega)]
end Go.Proofs.YtlneonmbhgppeaaGreatDoor
