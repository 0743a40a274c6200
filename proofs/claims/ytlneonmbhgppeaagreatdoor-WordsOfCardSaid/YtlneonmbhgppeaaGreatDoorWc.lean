/- The words of a text: what begins one, how far it goes. Conditions: the tables lie as their texts lay them. -/
import Derived.Test.YtlneonmbhgppeaaGreatDoorWa
import Derived.Test.YtlneonmbhgppeaaGreatDoorWb
import Derived.Lib.OthersKept
import Derived.WalkSmall
namespace Go.Proofs.YtlneonmbhgppeaaGreatDoor
open Go.RowKit

/-- What lies in the variables that are read. -/
structure Glob (w : World) : Prop where
  ranges : RangesLie w
  errR : ∃ tp p, w.var? Tryz.prog "strconv.ErrRange" = some #[.iface tp p]
  errS : ∃ tp p, w.var? Tryz.prog "strconv.ErrSyntax" = some #[.iface tp p]
  pow : Lib.TabIs Tryz.prog w "internal/strconv.uint64pow10" .u64 Lib.pow10Tab

theorem glob_lt {w : World} {n : String} {cs : Array Value} (h : w.var? Tryz.prog n = some cs) (g : Nat) (hg : Tryz.prog.globalNamed n = some g) : g < w.heap.size := by
  unfold World.var? at h
  rw [hg] at h
  simp only [Option.bind_some] at h
  rcases Nat.lt_or_ge g w.heap.size with h1 | h1
  · exact h1
  · rw [Array.getElem?_eq_none h1] at h
    cases h
theorem Glob.keep {w w' : World} (h : Glob w) (k : ∀ i, i < 7 → i < w.heap.size → w'.heap[i]? = w.heap[i]?) : Glob w' := by
  obtain ⟨⟨t, fr, h1⟩, ⟨a, b, h2⟩, ⟨c, d, h3⟩, h4⟩ := h
  have kv : ∀ (n : String) (cs : Array Value) (g : Nat), Tryz.prog.globalNamed n = some g → g < 7 → w.var? Tryz.prog n = some cs → w'.var? Tryz.prog n = some cs := by
    intro n cs g hg h7 hv
    have hl := glob_lt hv g hg
    unfold World.var? at hv ⊢
    rw [hg] at hv ⊢
    simp only [Option.bind_some] at hv ⊢
    rw [k g h7 hl]
    exact hv
  refine ⟨⟨t, fr, ?_⟩, ⟨a, b, kv _ _ 3 (by kernel_rfl) (by decide) h2⟩, ⟨c, d, kv _ _ 2 (by kernel_rfl) (by decide) h3⟩, kv _ _ 4 (by kernel_rfl) (by decide) h4⟩
  have hl : 0 < w.heap.size := by
    rcases Nat.lt_or_ge 0 w.heap.size with h5 | h5
    · exact h5
    · rw [Array.getElem?_eq_none h5] at h1; cases h1
  rw [k _ (by decide) hl]
  exact h1
theorem Glob.below {w w' : World} (h : Glob w) (hb : Below w.heap.size w w') : Glob w' := h.keep fun i _ hi => hb.block i hi
theorem Glob.belowB {B : Nat} {w0 w w' : World} (h : Glob w0) (_h0 : Below B w0 w) (hB : B = w0.heap.size) (hb : Below B w0 w') : Glob w' := h.keep fun i _ hi => hb.block i (by omega)

theorem toUInt8_lt (n : Nat) (h : n < 256) : n.toUInt8.toNat = n := by simp [Nat.toUInt8, UInt8.toNat_ofNat', Nat.mod_eq_of_lt h]

theorem indexByte_mem (l : List UInt8) (c : UInt8) : 0 ≤ Lib.indexByte l c ↔ c ∈ l := by
  induction l with
  | nil => simp [Lib.indexByte]
  | cons b r ih =>
    have hg := Lib.indexByte_ge r c
    unfold Lib.indexByte
    by_cases h : b = c
    · simp [h]
    · have h' : ¬ c = b := fun e => h e.symm
      by_cases k : Lib.indexByte r c = -1
      · have : ¬ c ∈ r := by rw [← ih]; omega
        simp [h, h', k, this]
      · have : c ∈ r := by rw [← ih]; omega
        simp [h, h', k, this]
        omega
theorem marks_index (c : Int) : decide (0 ≤ Lib.indexByte [40, 41, 123, 125, 60, 62, 91, 93, 44, 59, 58, 46, 124, 64, 37, 45] c.toNat.toUInt8) = inMarks c := by
  unfold inMarks marksL
  rw [decide_eq_decide]
  exact indexByte_mem _ _

theorem of_any (c : Int) (w : World) (h0 : 0 ≤ c) (h1 : c ≤ 255) (hG : Glob w) :
    Calls Tryz.prog 60 #[.int .u8 c] w fun e w' => e = .returned (.int .u8 (sortOf c)) ∧ Below w.heap.size w w' :=
  of_calls c w h0 h1 hG.ranges fun W => (Tryz.strings_IndexByte _ c W).mono fun _ _ ⟨he, hw⟩ => ⟨_, he, marks_index c, hw.symm⟩

theorem beq_some (a b : Int) : ((a == b) = true) = (a = b) := by simp

set_option maxHeartbeats 1000000 in
theorem within_calls (c : Int) (b n cap : Nat) (xs : List Int) (hn : xs.length = n) (h63 : n ≤ 1000) (w : World) (h0 : 0 ≤ c) (hG : Glob w)
    (hc : ∀ j, j < n → w.cell? ⟨b, j, none⟩ = some (.int .u8 (xs.getD j 0))) (hb : b < w.heap.size) :
    Calls Tryz.prog 64 #[.int .i32 c, .slice (some ⟨b, 0, none⟩) n cap] w fun e w' => e = .returned (.bool (withinB c xs)) ∧ Below w.heap.size w w' := by
  have HG := Lib.hid hG
  have HC := Lib.hid hc
  have HN := Lib.hid hn
  clear hG hc hn
  go_enter Tryz.func64, Tryz.ntmps64
  go_wp2
  go_loopw [9] (fun i wr => ∃ k : Nat, k ≤ n ∧ i = .int .i64 k ∧ (∀ j, j < k → ¬ (c < 128 ∧ sortOf c = xs.getD j 0)) ∧ Below w.heap.size w wr) (fun i _ => n - (intOf i).toNat)
  case atStart => exact ⟨0, by omega, rfl, fun j hj => by omega, Below.refl _ _⟩
  case round =>
    obtain ⟨k, hk, rfl, hno, hB⟩ := hrel
    have HB := Lib.hid hB
    have HNO := Lib.hid hno
    have hz := hB.size
    clear hB hno
    by_cases hlt : k < n
    · obtain ⟨y, hy⟩ : ∃ y, xs.getD k 0 = y := ⟨_, rfl⟩
      have hcell : wr.cell? ⟨b, k, none⟩ = some (.int .u8 y) := by rw [← hy]; exact (HB.out.cell (p := ⟨b, k, none⟩) hb).trans (HC.out k hlt)
      have HY := Lib.hid hy
      clear hy
      by_cases h128 : c < 128
      · by_cases hs : sortOf c = y
        · have ht : (sortOf c == y) = true := by simp [hs]
          have HT := Lib.hid hs
          clear hs
          go_wp2_with (go_at_call 60; refine (of_any c _ h0 (by omega) (HG.out.below HB.out)).mono ?_; rintro e w1 ⟨rfl, hb1⟩)
          go_ret
          refine ⟨?_, HB.out.trans (hb1.mono hz)⟩
          have : withinB c xs = true := by
            unfold withinB
            simp only [h128, decide_true, Bool.true_and, List.any_eq_true, beq_iff_eq]
            exact ⟨y, by rw [← HY.out, List.getD_eq_getElem?_getD, List.getElem?_eq_getElem (by rw [HN.out]; exact hlt)]; simp, HT.out⟩
          rw [this]; rfl
        · have ht : (sortOf c == y) = false := by simp [hs]
          have HT := Lib.hid hs
          clear hs
          go_wp2_with (go_at_call 60; refine (of_any c _ h0 (by omega) (HG.out.below HB.out)).mono ?_; rintro e w1 ⟨rfl, hb1⟩)
          go_roundw
          case rel => exact ⟨k + 1, by omega, by go_num, fun j hj => by rcases (show j < k ∨ j = k by omega) with h | rfl <;> first | exact HNO.out j h | exact fun h => HT.out (h.2.trans HY.out), HB.out.trans (hb1.mono hz)⟩
          case measure => simp [intOf]; omega
      · go_wp2
        go_roundw
        case rel => exact ⟨k + 1, by omega, by go_num, fun j hj h => h128 h.1, HB.out⟩
        case measure => simp [intOf]; omega
    · go_wp2
      go_ret
      refine ⟨?_, HB.out⟩
      have : withinB c xs = false := by
        unfold withinB
        rw [Bool.eq_false_iff]
        intro h
        simp only [Bool.and_eq_true, decide_eq_true_eq, List.any_eq_true, beq_iff_eq] at h
        obtain ⟨h1, x, hx, h2⟩ := h
        obtain ⟨j, hj, rfl⟩ := List.getElem_of_mem hx
        refine HNO.out j (by rw [HN.out] at hj; omega) ⟨h1, ?_⟩
        rw [List.getD_eq_getElem?_getD, List.getElem?_eq_getElem hj]
        exact h2
      rw [this]; rfl

theorem nm_calls (c : Int) (w : World) (h0 : 0 ≤ c) (hG : Glob w) :
    Calls Tryz.prog 63 #[.int .i32 c] w fun e w' => e = .returned (.bool (prNm c)) ∧ Below w.heap.size w w' := by
  by_cases h : c = 95
  · have ht : (c == 95) = true := by simp [h]
    have HH := Lib.hid h
    clear h
    go_enter Tryz.func63, Tryz.ntmps63
    go_wp2
    go_ret
    exact ⟨by rw [show prNm c = true by simp [prNm, HH.out]]; rfl, Below.refl _ _⟩
  · have ht : (c == 95) = false := by simp [h]
    have HG := Lib.hid hG
    clear hG
    go_enter Tryz.func63, Tryz.ntmps63
    go_wp2_with (go_at_call 64; refine (within_calls c w.heap.size 2 2 [2, 3] rfl (by omega) _ h0 (HG.out.below ((Below.refl _ _).alloc (Nat.le_refl _) _)) (fun j hj => ?_) (by simp)).mono ?_)
    · rcases (show j = 0 ∨ j = 1 by omega) with rfl | rfl <;> simp [World.cell?_alloc_new]
    · rintro e w1 ⟨rfl, hb⟩
      have hb' := ((Below.refl w.heap.size w).alloc (Nat.le_refl _) (.cells #[.int .u8 2, .int .u8 3] 59)).trans (hb.mono (by simp))
      go_wp2
      go_ret
      exact ⟨by rw [show prNm c = withinB c [2, 3] by simp [prNm, h]]; rfl, hb'⟩

theorem dg_calls (c : Int) (w : World) (h0 : 0 ≤ c) (hG : Glob w) :
    Calls Tryz.prog 65 #[.int .i32 c] w fun e w' => e = .returned (.bool (prDg c)) ∧ Below w.heap.size w w' := by
  have HG := Lib.hid hG
  clear hG
  go_enter Tryz.func65, Tryz.ntmps65
  go_wp2_with (go_at_call 64; refine (within_calls c w.heap.size 1 1 [3] rfl (by omega) _ h0 (HG.out.below ((Below.refl _ _).alloc (Nat.le_refl _) _)) (fun j hj => ?_) (by simp)).mono ?_)
  · rcases (show j = 0 by omega) with rfl; simp [World.cell?_alloc_new]
  · rintro e w1 ⟨rfl, hb⟩
    have hb' := ((Below.refl w.heap.size w).alloc (Nat.le_refl _) (.cells #[.int .u8 3] 59)).trans (hb.mono (by simp))
    go_wp2
    go_ret
    exact ⟨rfl, hb'⟩

theorem lw_step (pr : Int → Bool) (b : UInt8) (r : List UInt8) : lw pr (b :: r) = if pr b.toNat then lw pr r + 1 else 0 := by
  unfold lw
  rw [List.takeWhile_cons]
  by_cases h : pr b.toNat = true <;> simp [h]
theorem drop_at (s : ByteArray) (k : Nat) (h : k < s.size) : s.data.toList.drop k = s[k] :: s.data.toList.drop (k + 1) := by
  rw [List.drop_eq_getElem_cons (by simpa using h)]
  rfl

set_option maxHeartbeats 1000000 in
theorem while_calls (K : FuncId) (pr : Int → Bool) (s : ByteArray) (hs : s.size ≤ 281474976710656) (w : World) (hG : Glob w) (hp : ∀ r, 128 ≤ r → pr r = false) (hen : ∀ args W, (callFunc K args).run Tryz.prog W = .ok (.enter K args) W)
    (hf : ∀ (W : World) (r : Int), 0 ≤ r → Glob W → Calls Tryz.prog K #[.int .i32 r] W fun e w' => e = .returned (.bool (pr r)) ∧ Below W.heap.size W w') :
    Calls Tryz.prog 62 #[.string s, .func (.func K) #[] #[]] w fun e w' => e = .returned (.int .i64 (lw pr s.data.toList)) ∧ Below w.heap.size w w' := by
  have HF := Lib.hid hf
  have HG := Lib.hid hG
  have HP := Lib.hid hp
  clear hf hG hp
  go_enter Tryz.func62, Tryz.ntmps62
  go_wp2
  go_loopw [5] (fun _ wr => ∃ k : Nat, k ≤ s.size ∧ wr.heap[w.heap.size]? = some (.stringIter s k) ∧ lw pr s.data.toList = k + lw pr (s.data.toList.drop k) ∧ Below w.heap.size w wr) (fun _ wr => s.size - wr.iterPos w.heap.size)
  case atStart => exact ⟨0, by omega, World.iter_heap _ _ _, by simp, (Below.refl _ _).alloc (Nat.le_refl _) _⟩
  case round =>
    obtain ⟨k, hk, hit, hl, hB⟩ := hrel
    have hlt : w.heap.size < wr.heap.size := (Array.getElem?_eq_some_iff.1 hit).1
    have hBi : ∀ p, Below w.heap.size w (wr.iterAt w.heap.size s p) := fun p => ⟨hB.os, hB.tape, hB.output, by simpa [World.iterAt] using hB.size, fun j hj => (Lib.iterAt_other wr _ j s p (by omega)).trans (hB.block j hj)⟩
    have HB := Lib.hid hB
    have HBI := Lib.hid hBi
    have HL := Lib.hid hl
    have HIT := Lib.hid hit
    clear hB hl hBi hit
    by_cases hp : k < s.size
    · have hd := drop_at s k hp
      have HD := Lib.hid hd
      clear hd
      by_cases ha : (s[k]'hp).toNat < 128
      · have hnx : ∀ ty, (Instr.next (.pointer (some ⟨w.heap.size, 0, none⟩)) true ty).run Tryz.prog wr = _ := fun ty => Lib.run_next_ascii_at (P := Tryz.prog) wr w.heap.size s k ty HIT.out hp ha
        obtain ⟨b, hb⟩ : ∃ b : UInt8, s[k]'hp = b := ⟨_, rfl⟩
        have hit2 := Lib.iterAt_heap wr w.heap.size s k (k + 1) HIT.out
        have HI2 := Lib.hid hit2
        have HBB := Lib.hid hb
        rw [hb] at hnx
        have hsz : (wr.iterAt w.heap.size s (k + 1)).heap.size = wr.heap.size := by simp [World.iterAt]
        have HZ := Lib.hid hsz
        clear hit2 hb ha hsz
        by_cases hpr : pr (b.toNat : Int) = true
        · go_wp2_with fail
          refine (HF.out (wr.iterAt w.heap.size s (k + 1)) (b.toNat : Int) (by omega) (HG.out.below (HBI.out _))).mono ?_
          rintro e w1 ⟨rfl, hb1⟩
          have hb2 := hb1.mono (show w.heap.size ≤ _ by rw [HZ.out]; omega)
          go_wp2
          go_roundw
          case rel =>
            refine ⟨k + 1, by omega, (hb1.block _ (by rw [HZ.out]; exact hlt)).trans HI2.out, ?_, (HBI.out _).trans hb2⟩
            rw [HL.out, HD.out, lw_step, HBB.out, if_pos hpr]
            omega
          case measure =>
            have e1 : w1.iterPos w.heap.size = k + 1 := by unfold World.iterPos; rw [(hb1.block _ (by rw [HZ.out]; exact hlt)).trans HI2.out]
            have e2 : wr.iterPos w.heap.size = k := by unfold World.iterPos; rw [HIT.out]
            rw [e1, e2]; omega
        · have hpr' : pr (b.toNat : Int) = false := by simpa using hpr
          clear hpr
          go_wp2_with fail
          refine (HF.out (wr.iterAt w.heap.size s (k + 1)) (b.toNat : Int) (by omega) (HG.out.below (HBI.out _))).mono ?_
          rintro e w1 ⟨rfl, hb1⟩
          have hb2 := hb1.mono (show w.heap.size ≤ _ by rw [HZ.out]; omega)
          go_wp2
          go_ret
          refine ⟨?_, (HBI.out _).trans hb2⟩
          rw [HL.out, HD.out, lw_step, HBB.out, hpr']
          simp
      · have hnx : ∀ ty, (Instr.next (.pointer (some ⟨w.heap.size, 0, none⟩)) true ty).run Tryz.prog wr = _ := fun ty => Lib.run_next_any_at (P := Tryz.prog) wr w.heap.size s k ty HIT.out hp
        have hh := decode_high s k hp (by omega)
        obtain ⟨r, hr⟩ : ∃ r, (Utf8.decode s k).1 = r := ⟨_, rfl⟩
        obtain ⟨d, hd⟩ : ∃ r, (Utf8.decode s k).2 = r := ⟨_, rfl⟩
        rw [hr, hd] at hnx
        have h128 : 128 ≤ r := by omega
        have hsz : (wr.iterAt w.heap.size s (k + d)).heap.size = wr.heap.size := by simp [World.iterAt]
        have HZ := Lib.hid hsz
        have hpr' : pr (r : Int) = false := HP.out _ (by omega)
        have hb0 : pr ((s[k]'hp).toNat : Int) = false := HP.out _ (by omega)
        have HB0 := Lib.hid hb0
        clear hr hd hh hsz hb0
        go_wp2_with fail
        refine (HF.out (wr.iterAt w.heap.size s (k + d)) (r : Int) (by omega) (HG.out.below (HBI.out _))).mono ?_
        rintro e w1 ⟨rfl, hb1⟩
        have hb2 := hb1.mono (show w.heap.size ≤ _ by rw [HZ.out]; omega)
        go_wp2
        go_ret
        refine ⟨?_, (HBI.out _).trans hb2⟩
        rw [HL.out, HD.out, lw_step, HB0.out]
        simp
    · have hnx : ∀ ty, (Instr.next (.pointer (some ⟨w.heap.size, 0, none⟩)) true ty).run Tryz.prog wr = _ := fun ty => Lib.run_next_end_at (P := Tryz.prog) wr w.heap.size s k ty HIT.out hp
      go_wp2
      go_ret
      refine ⟨?_, HB.out⟩
      rw [HL.out, List.drop_eq_nil_of_le (by simp; omega)]
      have : k = s.size := by omega
      simp [lw, this]
end Go.Proofs.YtlneonmbhgppeaaGreatDoor
