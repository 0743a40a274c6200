/- A Book's marks: the text of a number, the word with it. Condition: the number is below 100. -/
import Derived.Test.YtlneonmbhgppeaaGreatDoorMm
import Derived.Test.YtlneonmbhgppeaaGreatDoorBa
import Derived.BigRegion
import Derived.BigQuiet
import Derived.Deep.QuietTactic
import Derived.Deep.RegionHeld3
namespace Go.Proofs.YtlneonmbhgppeaaGreatDoor
open Go.RowKit
/-- the text of a mark -/
def markT (n : Nat) : ByteArray := ⟨(35 :: Lib.decDigits n).toArray⟩
theorem dec_short (n : Nat) (hn : n < 100) : (Lib.decDigits n).length ≤ 2 := by
  by_cases h : n < 10
  · rw [Lib.decDigits_one h]; simp
  · rw [Lib.decDigits_two h hn]; simp
theorem markT_eq (n : Nat) : (⟨#[35]⟩ : ByteArray) ++ ⟨(Lib.decDigits n).toArray⟩ = markT n := by
  unfold markT
  apply ByteArray.ext
  simp
set_option maxHeartbeats 1000000 in
theorem mark_calls (n : Nat) (hn : n < 100) (w : World) :
    Calls Tryz.prog 114 #[.int .i64 n] w (fun e w' => e = .returned (.string (markT n)) ∧ w' = w) := by
  have hc := Tryz.strconv_Itoa_small n hn w
  have hl := dec_short n hn
  have hm := markT_eq n
  go_enter Tryz.func114, Tryz.ntmps114
  go_wp2_with (refine hc.mono ?_; rintro e w1 ⟨rfl, rfl⟩)
  go_ret
  exact ⟨rfl, rfl⟩
set_option maxHeartbeats 1000000 in
theorem markWord_calls (n : Nat) (hn : n < 100) (w : World) :
    Calls Tryz.prog 89 #[.int .i64 n] w (fun e w' => e = .returned (.agg #[.int .u8 0, .string (markT n), .int .i64 0, .int .i64 0]) ∧ Below w.heap.size w w') := by
  have hc := mark_calls n hn
  go_enter Tryz.func89, Tryz.ntmps89
  go_wp2_with fail
  refine (hc _).mono ?_
  rintro e w1 ⟨rfl, rfl⟩
  have hb := (Below.refl w.heap.size w).alloc (Nat.le_refl _) (.cells #[Value.int IntKind.u8 0, Value.string { data := #[] }, Value.int IntKind.i64 0, Value.int IntKind.i64 0] 51)
  go_wp2_with fail
  refine bodyPost_ret (v := .agg #[.int .u8 0, .string (markT n), .int .i64 0, .int .i64 0]) (by simp [results, Tryz.results89, go_sem]) rfl ?_
  exact ⟨rfl, (Below.refl w.heap.size w).alloc (Nat.le_refl _) _⟩
set_option maxHeartbeats 1000000 in
theorem isWord_calls (k t l c : Value) (x : ByteArray) (hx : t = .string x) (n : Nat) (hn : n < 100) (w : World) :
    Calls Tryz.prog 104 #[.agg #[k, t, l, c], .int .i64 n] w (fun e w' => e = .returned (.bool (x.toList == (markT n).toList)) ∧ Below w.heap.size w w') := by
  subst hx
  have hc := mark_calls n hn
  go_enter Tryz.func104, Tryz.ntmps104
  go_wp2_with fail
  have hcell : (w.alloc (Obj.cells #[k, Value.string x, l, c] 51)).cell? ⟨w.heap.size, 1, none⟩ = some (.string x) := (Blk.new w 51 #[k, Value.string x, l, c]).cell 1
  have hbel : Below w.heap.size w (w.alloc (Obj.cells #[k, Value.string x, l, c] 51)) := (Below.refl w.heap.size w).alloc (Nat.le_refl _) _
  have HB := Lib.hid hbel
  clear hbel
  go_region_held3 (fun W => W.cell? ⟨w.heap.size, 1, none⟩ = some (.string x)) (first | assumption) (first | (go_at_call 114; refine (hc _).mono ?_; rintro e w1 ⟨rfl, rfl⟩))
  go_wp2
  go_ret
  exact ⟨rfl, HB.out.drew⟩
end Go.Proofs.YtlneonmbhgppeaaGreatDoor
