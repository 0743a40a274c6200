/- words.of: the sort of a byte is told by the ranges as they are laid. Conditions: the table lies as the text lays it. -/
import Derived.Test.YtlneonmbhgppeaaGreatDoorProg
import Derived.Test.YtlneonmbhgppeaaGreatDoorPw
import Derived.WalkKit
import Derived.WalkLawsBesides
import Derived.WalkSpells
import Derived.Below
import Derived.Laws.Rows
import Derived.Outline
import Derived.Lib.Hide
namespace Go.Proofs.YtlneonmbhgppeaaGreatDoor
open Go.RowKit

def rangesCells : Array Value := #[.int .i32 97, .int .i32 122, .int .u8 2, .int .i32 65, .int .i32 90, .int .u8 2, .int .i32 48, .int .i32 57, .int .u8 3, .int .i32 9, .int .i32 10, .int .u8 1, .int .i32 32, .int .i32 32, .int .u8 1, .int .i32 35, .int .i32 35, .int .u8 5]
def RangesLie (w : World) : Prop := ∃ t fr, w.heap[0]? = some (.cells rangesCells t fr)

def NY (c : Int) (k : Nat) : Prop := (1 ≤ k → ¬ (97 ≤ c ∧ c ≤ 122)) ∧ (2 ≤ k → ¬ (65 ≤ c ∧ c ≤ 90)) ∧ (3 ≤ k → ¬ (48 ≤ c ∧ c ≤ 57)) ∧ (4 ≤ k → ¬ (9 ≤ c ∧ c ≤ 10)) ∧ (5 ≤ k → ¬ (32 ≤ c ∧ c ≤ 32)) ∧ (6 ≤ k → ¬ (35 ≤ c ∧ c ≤ 35))
theorem sortOf_mark (c : Int) (h : NY c 6) (hm : inMarks c = true) : sortOf c = 4 := by
  simp only [NY, inMarks, decide_eq_true_eq] at h hm
  unfold sortOf
  rw [if_neg (by omega), if_neg (by omega), if_neg (by omega), if_neg (by omega), if_neg (by omega), if_neg (by omega), if_pos hm]
theorem sortOf_none (c : Int) (h : NY c 6) (hm : inMarks c = false) : sortOf c = 0 := by
  simp only [NY, inMarks, decide_eq_false_iff_not] at h hm
  unfold sortOf
  rw [if_neg (by omega), if_neg (by omega), if_neg (by omega), if_neg (by omega), if_neg (by omega), if_neg (by omega), if_neg hm]
theorem sortOf_0 (c : Int) (_h : NY c 0) (h1 : 97 ≤ c) (h2 : c ≤ 122) : sortOf c = 2 := by
  simp only [NY] at _h
  unfold sortOf
  rw [if_pos (by omega)]
theorem idx_0 (W : World) : (Instr.index 172 (.agg rangesCells) (.int .i64 0)).run Tryz.prog W = .ok (.agg #[.int .i32 97, .int .i32 122, .int .u8 2]) W := by kernel_rfl
theorem sortOf_1 (c : Int) (_h : NY c 1) (h1 : 65 ≤ c) (h2 : c ≤ 90) : sortOf c = 2 := by
  simp only [NY] at _h
  unfold sortOf
  rw [if_neg (by omega), if_pos (by omega)]
theorem idx_1 (W : World) : (Instr.index 172 (.agg rangesCells) (.int .i64 1)).run Tryz.prog W = .ok (.agg #[.int .i32 65, .int .i32 90, .int .u8 2]) W := by kernel_rfl
theorem sortOf_2 (c : Int) (_h : NY c 2) (h1 : 48 ≤ c) (h2 : c ≤ 57) : sortOf c = 3 := by
  simp only [NY] at _h
  unfold sortOf
  rw [if_neg (by omega), if_neg (by omega), if_pos (by omega)]
theorem idx_2 (W : World) : (Instr.index 172 (.agg rangesCells) (.int .i64 2)).run Tryz.prog W = .ok (.agg #[.int .i32 48, .int .i32 57, .int .u8 3]) W := by kernel_rfl
theorem sortOf_3 (c : Int) (_h : NY c 3) (h1 : 9 ≤ c) (h2 : c ≤ 10) : sortOf c = 1 := by
  simp only [NY] at _h
  unfold sortOf
  rw [if_neg (by omega), if_neg (by omega), if_neg (by omega), if_pos (by omega)]
theorem idx_3 (W : World) : (Instr.index 172 (.agg rangesCells) (.int .i64 3)).run Tryz.prog W = .ok (.agg #[.int .i32 9, .int .i32 10, .int .u8 1]) W := by kernel_rfl
theorem sortOf_4 (c : Int) (_h : NY c 4) (h1 : 32 ≤ c) (h2 : c ≤ 32) : sortOf c = 1 := by
  simp only [NY] at _h
  unfold sortOf
  rw [if_neg (by omega), if_neg (by omega), if_neg (by omega), if_neg (by omega), if_pos (by omega)]
theorem idx_4 (W : World) : (Instr.index 172 (.agg rangesCells) (.int .i64 4)).run Tryz.prog W = .ok (.agg #[.int .i32 32, .int .i32 32, .int .u8 1]) W := by kernel_rfl
theorem sortOf_5 (c : Int) (_h : NY c 5) (h1 : 35 ≤ c) (h2 : c ≤ 35) : sortOf c = 5 := by
  simp only [NY] at _h
  unfold sortOf
  rw [if_neg (by omega), if_neg (by omega), if_neg (by omega), if_neg (by omega), if_neg (by omega), if_pos (by omega)]
theorem idx_5 (W : World) : (Instr.index 172 (.agg rangesCells) (.int .i64 5)).run Tryz.prog W = .ok (.agg #[.int .i32 35, .int .i32 35, .int .u8 5]) W := by kernel_rfl

set_option maxHeartbeats 4000000 in
theorem of_calls (c : Int) (w : World) (h0 : 0 ≤ c) (h1 : c ≤ 255) (hG : RangesLie w) (hidx : ∀ (W : World), Calls Tryz.prog 61 #[.string ⟨#[40, 41, 123, 125, 60, 62, 91, 93, 44, 59, 58, 46, 124, 64, 37, 45]⟩, .int .u8 c] W fun e w' => ∃ i : Int, e = .returned (.int .i64 i) ∧ decide (0 ≤ i) = inMarks c ∧ W = w') :
    Calls Tryz.prog 60 #[.int .u8 c] w fun e w' => e = .returned (.int .u8 (sortOf c)) ∧ Below w.heap.size w w' := by
  obtain ⟨tt, fr, hg⟩ := hG
  have HI := Lib.hid hidx
  clear hidx
  go_enter Tryz.func60, Tryz.ntmps60
  go_wp2_with (refine wpList_load_row rfl 172 _ rfl 0 rfl tt _ fr _ hg Tryz.underlying172 rfl (by kernel_rfl) ?_)
  go_loopw [6] (fun i wr => ∃ k : Nat, k ≤ 6 ∧ i = .int .i64 k ∧ NY c k ∧ Below w.heap.size w wr) (fun i _ => 6 - (intOf i).toNat)
  case atStart => exact ⟨0, by omega, rfl, by simp only [NY]; omega, Below.refl _ _⟩
  case round =>
    obtain ⟨k, hk, rfl, hny, hb⟩ := hrel
    have hbz := hb.size
    have HB := Lib.hid hb
    have HN := Lib.hid hny
    clear hb hny hg
    rcases (show k = 0 ∨ k = 1 ∨ k = 2 ∨ k = 3 ∨ k = 4 ∨ k = 5 ∨ k = 6 by omega) with rfl | rfl | rfl | rfl | rfl | rfl | rfl
    · have hx := idx_0
      by_cases hin : 97 ≤ c ∧ c ≤ 122
      · have t1 : (97 : Int) ≤ c := hin.1
        have t2 : c ≤ 122 := hin.2
        clear hin
        go_wp2
        go_ret
        exact ⟨by rw [sortOf_0 c HN.out t1 t2]; rfl, (HB.out.alloc hbz _)⟩
      · have nx : NY c 1 := by have := HN.out; simp only [NY] at this ⊢; omega
        have HX := Lib.hid nx
        clear nx
        by_cases t1 : (97 : Int) ≤ c
        · have t2 : ¬ c ≤ 122 := fun h => hin ⟨t1, h⟩
          clear hin
          go_wp2
          go_roundw
          case rel => exact ⟨1, by omega, rfl, HX.out, HB.out.alloc hbz _⟩
          case measure => simp [intOf]
        · clear hin
          go_wp2
          go_roundw
          case rel => exact ⟨1, by omega, rfl, HX.out, HB.out.alloc hbz _⟩
          case measure => simp [intOf]
    · have hx := idx_1
      by_cases hin : 65 ≤ c ∧ c ≤ 90
      · have t1 : (65 : Int) ≤ c := hin.1
        have t2 : c ≤ 90 := hin.2
        clear hin
        go_wp2
        go_ret
        exact ⟨by rw [sortOf_1 c HN.out t1 t2]; rfl, (HB.out.alloc hbz _)⟩
      · have nx : NY c 2 := by have := HN.out; simp only [NY] at this ⊢; omega
        have HX := Lib.hid nx
        clear nx
        by_cases t1 : (65 : Int) ≤ c
        · have t2 : ¬ c ≤ 90 := fun h => hin ⟨t1, h⟩
          clear hin
          go_wp2
          go_roundw
          case rel => exact ⟨2, by omega, rfl, HX.out, HB.out.alloc hbz _⟩
          case measure => simp [intOf]
        · clear hin
          go_wp2
          go_roundw
          case rel => exact ⟨2, by omega, rfl, HX.out, HB.out.alloc hbz _⟩
          case measure => simp [intOf]
    · have hx := idx_2
      by_cases hin : 48 ≤ c ∧ c ≤ 57
      · have t1 : (48 : Int) ≤ c := hin.1
        have t2 : c ≤ 57 := hin.2
        clear hin
        go_wp2
        go_ret
        exact ⟨by rw [sortOf_2 c HN.out t1 t2]; rfl, (HB.out.alloc hbz _)⟩
      · have nx : NY c 3 := by have := HN.out; simp only [NY] at this ⊢; omega
        have HX := Lib.hid nx
        clear nx
        by_cases t1 : (48 : Int) ≤ c
        · have t2 : ¬ c ≤ 57 := fun h => hin ⟨t1, h⟩
          clear hin
          go_wp2
          go_roundw
          case rel => exact ⟨3, by omega, rfl, HX.out, HB.out.alloc hbz _⟩
          case measure => simp [intOf]
        · clear hin
          go_wp2
          go_roundw
          case rel => exact ⟨3, by omega, rfl, HX.out, HB.out.alloc hbz _⟩
          case measure => simp [intOf]
    · have hx := idx_3
      by_cases hin : 9 ≤ c ∧ c ≤ 10
      · have t1 : (9 : Int) ≤ c := hin.1
        have t2 : c ≤ 10 := hin.2
        clear hin
        go_wp2
        go_ret
        exact ⟨by rw [sortOf_3 c HN.out t1 t2]; rfl, (HB.out.alloc hbz _)⟩
      · have nx : NY c 4 := by have := HN.out; simp only [NY] at this ⊢; omega
        have HX := Lib.hid nx
        clear nx
        by_cases t1 : (9 : Int) ≤ c
        · have t2 : ¬ c ≤ 10 := fun h => hin ⟨t1, h⟩
          clear hin
          go_wp2
          go_roundw
          case rel => exact ⟨4, by omega, rfl, HX.out, HB.out.alloc hbz _⟩
          case measure => simp [intOf]
        · clear hin
          go_wp2
          go_roundw
          case rel => exact ⟨4, by omega, rfl, HX.out, HB.out.alloc hbz _⟩
          case measure => simp [intOf]
    · have hx := idx_4
      by_cases hin : 32 ≤ c ∧ c ≤ 32
      · have t1 : (32 : Int) ≤ c := hin.1
        have t2 : c ≤ 32 := hin.2
        clear hin
        go_wp2
        go_ret
        exact ⟨by rw [sortOf_4 c HN.out t1 t2]; rfl, (HB.out.alloc hbz _)⟩
      · have nx : NY c 5 := by have := HN.out; simp only [NY] at this ⊢; omega
        have HX := Lib.hid nx
        clear nx
        by_cases t1 : (32 : Int) ≤ c
        · have t2 : ¬ c ≤ 32 := fun h => hin ⟨t1, h⟩
          clear hin
          go_wp2
          go_roundw
          case rel => exact ⟨5, by omega, rfl, HX.out, HB.out.alloc hbz _⟩
          case measure => simp [intOf]
        · clear hin
          go_wp2
          go_roundw
          case rel => exact ⟨5, by omega, rfl, HX.out, HB.out.alloc hbz _⟩
          case measure => simp [intOf]
    · have hx := idx_5
      by_cases hin : 35 ≤ c ∧ c ≤ 35
      · have t1 : (35 : Int) ≤ c := hin.1
        have t2 : c ≤ 35 := hin.2
        clear hin
        go_wp2
        go_ret
        exact ⟨by rw [sortOf_5 c HN.out t1 t2]; rfl, (HB.out.alloc hbz _)⟩
      · have nx : NY c 6 := by have := HN.out; simp only [NY] at this ⊢; omega
        have HX := Lib.hid nx
        clear nx
        by_cases t1 : (35 : Int) ≤ c
        · have t2 : ¬ c ≤ 35 := fun h => hin ⟨t1, h⟩
          clear hin
          go_wp2
          go_roundw
          case rel => exact ⟨6, by omega, rfl, HX.out, HB.out.alloc hbz _⟩
          case measure => simp [intOf]
        · clear hin
          go_wp2
          go_roundw
          case rel => exact ⟨6, by omega, rfl, HX.out, HB.out.alloc hbz _⟩
          case measure => simp [intOf]
    · go_wp2_with fail
      refine (HI.out _).mono ?_
      rintro e w1 ⟨i, rfl, hi, rfl⟩
      have HD := Lib.hid hi
      clear hi
      by_cases h3 : 0 ≤ i
      · go_wp2
        go_ret
        exact ⟨by rw [sortOf_mark c HN.out (by rw [← HD.out]; simpa using h3)]; rfl, HB.out⟩
      · go_wp2
        go_ret
        exact ⟨by rw [sortOf_none c HN.out (by rw [← HD.out]; simpa using h3)]; rfl, HB.out⟩
end Go.Proofs.YtlneonmbhgppeaaGreatDoor
