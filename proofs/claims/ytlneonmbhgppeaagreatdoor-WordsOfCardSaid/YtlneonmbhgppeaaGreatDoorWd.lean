/- The word with which a text begins. Conditions: the tables lie as their texts lay them; the text is not empty. -/
import Derived.Test.YtlneonmbhgppeaaGreatDoorWc
import Derived.BigQuiet
import Derived.Deep.QuietTactic
import Derived.Deep.RegionWith
import Derived.Deep.RegionHeld3
namespace Go.Proofs.YtlneonmbhgppeaaGreatDoor
open Go.RowKit

theorem pw_below_drewN {B : Nat} {w W : World} (h : Below B w W) (n : Nat) : Below B w (W.drewN n) := ⟨h.os, h.tape, h.output, h.size, h.block⟩
theorem prNm_hi : ∀ r, 128 ≤ r → prNm r = false := fun r h => by
  have h1 : ¬ r < 128 := by omega
  have h2 : ¬ r = 95 := by omega
  simp [prNm, withinB, h1, h2]
theorem prDg_hi : ∀ r, 128 ≤ r → prDg r = false := fun r h => by
  have h1 : ¬ r < 128 := by omega
  simp [prDg, withinB, h1]
theorem whileNm (s : ByteArray) (hs : s.size ≤ 281474976710656) (w : World) (hG : Glob w) :
    Calls Tryz.prog 62 #[.string s, .func (.func 63) #[] #[]] w fun e w' => e = .returned (.int .i64 (lw prNm s.data.toList)) ∧ Below w.heap.size w w' :=
  while_calls _ prNm s hs w hG prNm_hi (enters_of Tryz.func63 (by kernel_rfl) rfl) fun W r h hg => nm_calls r W h hg
theorem whileDg (s : ByteArray) (hs : s.size ≤ 281474976710656) (w : World) (hG : Glob w) :
    Calls Tryz.prog 62 #[.string s, .func (.func 65) #[] #[]] w fun e w' => e = .returned (.int .i64 (lw prDg s.data.toList)) ∧ Below w.heap.size w w' :=
  while_calls _ prDg s hs w hG prDg_hi (enters_of Tryz.func65 (by kernel_rfl) rfl) fun W r h hg => dg_calls r W h hg

theorem word_letter (s : ByteArray) (c : Int) (h0 : 0 ≤ c) (h1 : c ≤ 255) (hp : 0 < s.size) (hc : ((s[0]'hp).toNat : Int) = c) (hs : s.size ≤ 281474976710656) (w : World) (hG : Glob w) (hso : sortOf c = 2) :
    Calls Tryz.prog 11 #[.string s] w fun e w' => e = .returned (.tuple #[.int .i64 (nameN s.data.toList), .int .u8 0]) ∧ Below w.heap.size w w' := by
  have HG := Lib.hid hG
  have ht : (sortOf c == 2) = true := by simp [hso]
  clear hG hso
  go_enter Tryz.func11, Tryz.ntmps11
  go_wp2_with fail
  refine (of_any c _ h0 h1 HG.out).mono ?_
  rintro e w1 ⟨rfl, hb1⟩
  have HB1 := Lib.hid hb1
  have hz1 := hb1.size
  clear hb1
  go_wp2_with fail
  refine (whileNm s hs _ (HG.out.below HB1.out)).mono ?_
  rintro e w2 ⟨rfl, hb2⟩
  have hb := HB1.out.trans (hb2.mono hz1)
  have hl := lw_le prNm s.data.toList
  rw [Array.length_toList] at hl
  have hl2 : lw prNm s.data.toList ≤ 281474976710656 := Nat.le_trans hl hs
  clear hb2 hl
  by_cases h32 : 32 < lw prNm s.data.toList
  · go_wp2
    go_ret2
    exact ⟨by rw [show nameN s.data.toList = 0 by unfold nameN; rw [if_pos h32]]; rfl, hb⟩
  · go_wp2
    go_ret2
    exact ⟨by rw [show nameN s.data.toList = lw prNm s.data.toList by unfold nameN; rw [if_neg h32]]; rfl, hb⟩

theorem neq_nil (W : World) : (binOp .neq 67 .nilIface .nilIface).run Tryz.prog W = .ok (.bool false) W := by kernel_rfl
theorem neq_held (N : Nat) (W : World) : (binOp .neq 67 (.iface 179 (.pointer (some ⟨N, 0, none⟩))) .nilIface).run Tryz.prog W = .ok (.bool true) W := by kernel_rfl
/-- strconv.ParseUint in base ten, of 64 bits: three ways. -/
theorem parse_ok (s : ByteArray) (hs : s.size ≤ 281474976710656) (u : Nat) (h : Lib.parseUintB 64 s.data.toList = .ok u) (w : World) :
    Calls Tryz.prog 66 #[.string s, .int .i64 10, .int .i64 64] w fun e w' => e = .returned (.tuple #[.int .u64 u, .nilIface]) ∧ Below w.heap.size w w' := by
  refine (Tryz.strconv_ParseUint_10_at64_ok s (by omega) u h w).mono ?_
  rintro e w' ⟨he, h1 | h1⟩
  · rw [h1]; exact ⟨he, Below.refl _ _⟩
  · rw [h1]; exact ⟨he, Lib.bytesWorld_below _ _ _⟩
theorem parse_bad (s : ByteArray) (hs : s.size ≤ 281474976710656) (h : ∀ u, Lib.parseUintB 64 s.data.toList ≠ .ok u) (w : World) (hG : Glob w) :
    Calls Tryz.prog 66 #[.string s, .int .i64 10, .int .i64 64] w fun e w' => ∃ m N, e = .returned (.tuple #[.int .u64 m, .iface 179 (.pointer (some ⟨N, 0, none⟩))]) ∧ Below w.heap.size w w' := by
  obtain ⟨ta, pa, hR⟩ := hG.errR
  obtain ⟨tb, pb, hS⟩ := hG.errS
  by_cases hc : Lib.parseUintB 64 s.data.toList = .range
  · refine (Tryz.strconv_ParseUint_10_at64_range_var s hs hc ta pa w hR).mono ?_
    rintro e w' ⟨N, he, _, _, hb⟩
    exact ⟨_, N, he, hb⟩
  · refine (Tryz.strconv_ParseUint_10_at64_syntax_var s hs ⟨hc, h⟩ tb pb w hS).mono ?_
    rintro e w' ⟨N, he, _, _, hb⟩
    exact ⟨_, N, he, hb⟩

theorem word_digit_ok (s : ByteArray) (c : Int) (h0 : 0 ≤ c) (h1 : c ≤ 255) (hp : 0 < s.size) (hc : ((s[0]'hp).toNat : Int) = c) (hs : s.size ≤ 281474976710656) (w : World) (hG : Glob w) (hso : sortOf c = 3)
    (n : Nat) (hn : lw prDg s.data.toList = n) (u : Nat) (hu : Lib.parseUintB 64 (s.extract 0 n).data.toList = .ok u) (d : Bool) (hd : (Lib.decDigits u == (s.extract 0 n).toList) = d) :
    Calls Tryz.prog 11 #[.string s] w fun e w' => e = .returned (.tuple #[.int .i64 (if d then n else 0 : Nat), .int .u8 1]) ∧ Below w.heap.size w w' := by
  have HG := Lib.hid hG
  have ht2 : (sortOf c == 2) = false := by simp [hso]
  have ht : (sortOf c == 3) = true := by simp [hso]
  have hl := lw_le prDg s.data.toList
  rw [Array.length_toList, hn] at hl
  have hl2 : n ≤ s.size := hl
  have hlt : u < 18446744073709551616 := by have := Lib.parseUintB_le hu; omega
  have HU := Lib.hid hu
  have HN := Lib.hid hn
  have HLT := Lib.hid hlt
  clear hG hso hl hn hu hlt
  go_enter Tryz.func11, Tryz.ntmps11
  go_wp2_with fail
  refine (of_any c _ h0 h1 HG.out).mono ?_
  rintro e w1 ⟨rfl, hb1⟩
  have HB1 := Lib.hid hb1
  have hz1 := hb1.size
  clear hb1
  go_wp2_with fail
  refine (whileDg s hs _ (HG.out.below HB1.out)).mono ?_
  rintro e w2 ⟨rfl, hb2⟩
  rw [HN.out]
  have HB2 := Lib.hid (HB1.out.trans (hb2.mono hz1))
  have hz2 := HB2.out.size
  clear hb2
  go_wp2_with fail
  have hsz : (s.extract 0 n).size ≤ 281474976710656 := by rw [ByteArray.size_extract]; omega
  refine (parse_ok _ hsz u HU.out _).mono ?_
  rintro e w3 ⟨rfl, hb3⟩
  have HB3 := Lib.hid (HB2.out.trans (hb3.mono hz2))
  have hz3 := HB3.out.size
  clear hb3 hsz
  have HG3 := Lib.hid (HG.out.below HB3.out)
  have hq := neq_nil
  go_wp2_with fail
  go_region_held3 (fun W => Below w.heap.size w W) (first | assumption | exact HB3.out.drew) (first | (go_at_call 67; refine (fmtUint u HLT.out _ (by exact HG3.out.pow)).mono ?_; rintro e w4 ⟨rfl, hb4⟩; have hb5 := (HB3.out.drew).trans (hb4.mono (by simpa using hz3)); clear hb4))
  cases d
  · go_wp2
    go_ret2
    exact ⟨rfl, by assumption⟩
  · go_wp2
    go_ret2
    exact ⟨rfl, by assumption⟩

theorem word_digit_bad (s : ByteArray) (c : Int) (h0 : 0 ≤ c) (h1 : c ≤ 255) (hp : 0 < s.size) (hc : ((s[0]'hp).toNat : Int) = c) (hs : s.size ≤ 281474976710656) (w : World) (hG : Glob w) (hso : sortOf c = 3)
    (n : Nat) (hn : lw prDg s.data.toList = n) (hu : ∀ u, Lib.parseUintB 64 (s.extract 0 n).data.toList ≠ .ok u) :
    Calls Tryz.prog 11 #[.string s] w fun e w' => e = .returned (.tuple #[.int .i64 0, .int .u8 1]) ∧ Below w.heap.size w w' := by
  have HG := Lib.hid hG
  have ht2 : (sortOf c == 2) = false := by simp [hso]
  have ht : (sortOf c == 3) = true := by simp [hso]
  have hl := lw_le prDg s.data.toList
  rw [Array.length_toList, hn] at hl
  have hl2 : n ≤ s.size := hl
  have HU := Lib.hid hu
  have HN := Lib.hid hn
  clear hG hso hl hn hu
  go_enter Tryz.func11, Tryz.ntmps11
  go_wp2_with fail
  refine (of_any c _ h0 h1 HG.out).mono ?_
  rintro e w1 ⟨rfl, hb1⟩
  have HB1 := Lib.hid hb1
  have hz1 := hb1.size
  clear hb1
  go_wp2_with fail
  refine (whileDg s hs _ (HG.out.below HB1.out)).mono ?_
  rintro e w2 ⟨rfl, hb2⟩
  rw [HN.out]
  have HB2 := Lib.hid (HB1.out.trans (hb2.mono hz1))
  have hz2 := HB2.out.size
  clear hb2
  go_wp2_with fail
  have hsz : (s.extract 0 n).size ≤ 281474976710656 := by rw [ByteArray.size_extract]; omega
  refine (parse_bad _ hsz HU.out _ (HG.out.below HB2.out)).mono ?_
  rintro e w3 ⟨m, N, rfl, hb3⟩
  have HB3 := Lib.hid (HB2.out.trans (hb3.mono hz2))
  clear hb3 hsz
  have hq := neq_held N
  go_wp2_with fail
  go_quiet (fail)
  go_wp2
  go_ret2
  exact ⟨rfl, pw_below_drewN HB3.out _⟩

theorem word_mark (s : ByteArray) (c : Int) (h0 : 0 ≤ c) (h1 : c ≤ 255) (hp : 0 < s.size) (hc : ((s[0]'hp).toNat : Int) = c) (w : World) (hG : Glob w) (hso : sortOf c = 4) (d : Bool) (hd : Lib.hasPrefix s.data.toList [60, 61] = d) :
    Calls Tryz.prog 11 #[.string s] w fun e w' => e = .returned (.tuple #[.int .i64 (if d then 2 else 1 : Nat), .int .u8 2]) ∧ Below w.heap.size w w' := by
  have HG := Lib.hid hG
  have ht2 : (sortOf c == 2) = false := by simp [hso]
  have ht3 : (sortOf c == 3) = false := by simp [hso]
  have ht : (sortOf c == 4) = true := by simp [hso]
  have HD := Lib.hid hd
  clear hG hso hd
  go_enter Tryz.func11, Tryz.ntmps11
  go_wp2_with fail
  refine (of_any c _ h0 h1 HG.out).mono ?_
  rintro e w1 ⟨rfl, hb1⟩
  have HB1 := Lib.hid hb1
  clear hb1
  go_wp2_with fail
  refine (Tryz.strings_HasPrefix s _ _).mono ?_
  rintro e w2 ⟨rfl, rfl⟩
  have hd2 : Lib.hasPrefix s.data.toList [60, 61] = d := HD.out
  cases d
  · go_wp2
    go_ret2
    exact ⟨rfl, HB1.out⟩
  · go_wp2
    go_ret2
    exact ⟨rfl, HB1.out⟩

theorem word_other (s : ByteArray) (c : Int) (h0 : 0 ≤ c) (h1 : c ≤ 255) (hp : 0 < s.size) (hc : ((s[0]'hp).toNat : Int) = c) (w : World) (hG : Glob w) (h2 : sortOf c ≠ 2) (h3 : sortOf c ≠ 3) (h4 : sortOf c ≠ 4) :
    Calls Tryz.prog 11 #[.string s] w fun e w' => e = .returned (.tuple #[.int .i64 0, .int .u8 2]) ∧ Below w.heap.size w w' := by
  have HG := Lib.hid hG
  have ht2 : (sortOf c == 2) = false := by simp [h2]
  have ht3 : (sortOf c == 3) = false := by simp [h3]
  have ht : (sortOf c == 4) = false := by simp [h4]
  clear hG h2 h3 h4
  go_enter Tryz.func11, Tryz.ntmps11
  go_wp2_with fail
  refine (of_any c _ h0 h1 HG.out).mono ?_
  rintro e w1 ⟨rfl, hb1⟩
  go_wp2
  go_ret2
  exact ⟨rfl, hb1⟩
end Go.Proofs.YtlneonmbhgppeaaGreatDoor
