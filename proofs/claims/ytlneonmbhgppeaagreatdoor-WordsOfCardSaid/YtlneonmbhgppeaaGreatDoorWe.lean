/- The reader of a text: what it takes, what it skips. Conditions: the tables lie as their texts lay them; the reader lies in a block of its own. -/
import Derived.Test.YtlneonmbhgppeaaGreatDoorWd
import Derived.Test.YtlneonmbhgppeaaGreatDoorMm
import Derived.BigRegion
import Derived.Lib.Split
namespace Go.Proofs.YtlneonmbhgppeaaGreatDoor
open Go.RowKit

theorem word_calls (s : ByteArray) (hp : 0 < s.size) (hs : s.size ≤ 281474976710656) (w : World) (hG : Glob w) :
    Calls Tryz.prog 11 #[.string s] w fun e w' => e = .returned (.tuple #[.int .i64 (wordL s.data.toList).1, .int .u8 (wordL s.data.toList).2]) ∧ Below w.heap.size w w' := by
  have hd := drop_at s 0 hp
  rw [List.drop_zero] at hd
  have h255 : ((s[0]'hp).toNat : Int) ≤ 255 := by have := (s[0]'hp).toNat_lt; omega
  obtain ⟨r, hr⟩ : ∃ r, s.data.toList.drop (0 + 1) = r := ⟨_, rfl⟩
  rw [hr] at hd
  have hw : wordL s.data.toList = if sortOf (s[0]'hp).toNat = 2 then (nameN s.data.toList, 0) else if sortOf (s[0]'hp).toNat = 3 then (numN s.data.toList, 1) else if sortOf (s[0]'hp).toNat = 4 then (markN s.data.toList, 2) else (0, 2) := by
    rw [hd]; rfl
  rw [hw]
  by_cases h2 : sortOf (s[0]'hp).toNat = 2
  · rw [if_pos h2]
    exact word_letter s _ (by omega) h255 hp rfl hs w hG h2
  · rw [if_neg h2]
    by_cases h3 : sortOf (s[0]'hp).toNat = 3
    · rw [if_pos h3]
      have hl := Lib.extract_from_zero s (lw prDg s.data.toList)
      by_cases hc : ∃ u, Lib.parseUintB 64 (s.extract 0 (lw prDg s.data.toList)).data.toList = .ok u
      · obtain ⟨u, hc⟩ := hc
        have e : numN s.data.toList = if (Lib.decDigits u == (s.extract 0 (lw prDg s.data.toList)).toList) = true then lw prDg s.data.toList else 0 := by
          unfold numN numOk
          rw [← hl, hc]
          have : (s.extract 0 (lw prDg s.data.toList)).toList = (s.extract 0 (lw prDg s.data.toList)).data.toList := Lib.toList_data _
          rw [this]
          by_cases k : Lib.decDigits u = (s.extract 0 (lw prDg s.data.toList)).data.toList <;> simp [k]
        rw [e]
        exact word_digit_ok s _ (by omega) h255 hp rfl hs w hG h3 _ rfl u hc _ rfl
      · have e : numN s.data.toList = 0 := by
          unfold numN numOk
          rw [← hl]
          cases k : Lib.parseUintB 64 (s.extract 0 (lw prDg s.data.toList)).data.toList
          · exact absurd ⟨_, k⟩ hc
          · rfl
          · rfl
        rw [e]
        exact word_digit_bad s _ (by omega) h255 hp rfl hs w hG h3 _ rfl (fun u k => hc ⟨u, k⟩)
    · rw [if_neg h3]
      by_cases h4 : sortOf (s[0]'hp).toNat = 4
      · rw [if_pos h4]
        have e : markN s.data.toList = if Lib.hasPrefix s.data.toList [60, 61] = true then 2 else 1 := by
          unfold markN Lib.hasPrefix
          by_cases k : [60, 61] <+: s.data.toList
          · rw [if_pos k, if_pos (List.isPrefixOf_iff_prefix.2 k)]
          · rw [if_neg k, if_neg (fun h => k (List.isPrefixOf_iff_prefix.1 h))]
        rw [e]
        exact word_mark s _ (by omega) h255 hp rfl w hG h4 _ rfl
      · rw [if_neg h4]
        exact word_other s _ (by omega) h255 hp rfl w hG h2 h3 h4

set_option maxHeartbeats 1000000 in
theorem takes_none (g n : Nat) (s : ByteArray) (hn : n ≤ s.size) (hs : s.size ≤ 281474976710656) (l c : Int) (hc0 : 0 ≤ c) (hc1 : c ≤ 1000000000000000) (w : World)
    (hb : Blk w g 54 #[.string s, .int .i64 l, .int .i64 c]) (hi : Lib.lastIndexByte (s.extract 0 n) 10 = -1) :
    Calls Tryz.prog 12 #[.pointer (some ⟨g, 0, none⟩), .int .i64 n] w fun e w' => e = .returned (.string (s.extract 0 n)) ∧
      Blk w' g 54 #[.string (s.extract n s.size), .int .i64 l, .int .i64 (c + n)] ∧ w.grownBy w' (some g) := by
  have h0 := hb.cell 0
  have h2 := hb.cell 2
  have f0 := hb.frozen 0
  have f2 := hb.frozen 2
  simp at h0 h2
  have HI := Lib.hid hi
  clear hi
  go_enter Tryz.func12, Tryz.ntmps12
  go_wp2_with fail
  refine (Tryz.strings_LastIndexByte _ 10 (by rw [ByteArray.size_extract]; omega) _).mono ?_
  rintro e w1 ⟨rfl, rfl⟩
  rw [HI.out]
  go_wp2
  go_ret
  refine ⟨rfl, ?_, only_set (g := g) (only_set (g := g) (World.grownBy.refl _ _) (.inl rfl) _) (.inl rfl) _⟩
  have := (hb.set_ 0 (.string (s.extract n s.size))).set_ 2 (.int .i64 (c + n))
  simpa using this

set_option maxHeartbeats 1000000 in
theorem takes_some (g n : Nat) (s : ByteArray) (hn : n ≤ s.size) (hs : s.size ≤ 281474976710656) (l c : Int) (hl0 : 0 ≤ l) (hl1 : l ≤ 1000000000000000) (w : World)
    (hb : Blk w g 54 #[.string s, .int .i64 l, .int .i64 c]) (i cnt : Nat) (hi : Lib.lastIndexByte (s.extract 0 n) 10 = i) (hin : i < n) (hcnt : Lib.countByte (s.extract 0 n).data.toList 10 = cnt) (hcn : cnt ≤ n) :
    Calls Tryz.prog 12 #[.pointer (some ⟨g, 0, none⟩), .int .i64 n] w fun e w' => e = .returned (.string (s.extract 0 n)) ∧
      Blk w' g 54 #[.string (s.extract n s.size), .int .i64 (l + cnt), .int .i64 ((n : Int) - i)] ∧ w.grownBy w' (some g) := by
  have h0 := hb.cell 0
  have h1 := hb.cell 1
  have h2 := hb.cell 2
  have f0 := hb.frozen 0
  have f1 := hb.frozen 1
  have f2 := hb.frozen 2
  simp at h0 h1 h2
  have HI := Lib.hid hi
  have HC := Lib.hid hcnt
  clear hi hcnt
  go_enter Tryz.func12, Tryz.ntmps12
  go_wp2_with fail
  refine (Tryz.strings_LastIndexByte _ 10 (by rw [ByteArray.size_extract]; omega) _).mono ?_
  rintro e w1 ⟨rfl, rfl⟩
  rw [HI.out]
  have hge : (0 : Int) ≤ (i : Int) := by omega
  have hcnt := fun W => Tryz.strings_Count_one (s.extract 0 n) 10 W
  rw [HC.out] at hcnt
  have hwr : IntKind.i64.wrap (l + (cnt : Int)) = l + (cnt : Int) := by rw [IntKind.wrap_i64]; omega
  have HCN := Lib.hid hcnt
  clear hcnt
  have k1 : ∀ v, (w.setCell ⟨g, 0, none⟩ v).cell? ⟨g, 1, none⟩ = some (.int .i64 l) := fun v => by rw [World.cell?_setCell_other _ _ _ _ (by simp)]; exact h1
  go_wp2_with fail
  go_region_with (go_at_call 70; refine (HCN.out _).mono ?_; rintro e w4 ⟨rfl, rfl⟩)
  all_goals
    go_wp2
    go_ret
    refine ⟨rfl, ?_, only_drew (only_set (g := g) (only_set (g := g) (only_set (g := g) (World.grownBy.refl _ _) (.inl rfl) _) (.inl rfl) _) (.inl rfl) _)⟩
    have := ((hb.set_ 0 (.string (s.extract n s.size))).set_ 1 (.int .i64 (l + cnt))).set_ 2 (.int .i64 ((n : Int) - i))
    simpa using this.drew

/-- where a list's bytes lead a place, as the code has it -/
theorem adv_none (t : List UInt8) (h : ∀ b ∈ t, b ≠ 10) (p : Pl) : adv p t = (p.1, p.2 + t.length) := by
  induction t generalizing p with
  | nil => simp [adv]
  | cons b r ih =>
    have hb : b ≠ 10 := h b (by simp)
    show adv (adv1 p b) r = _
    rw [ih (fun x hx => h x (by simp [hx]))]
    simp only [adv1, if_neg hb, List.length_cons]
    ext <;> simp; omega
theorem adv_some (t : List UInt8) : ∀ (i : Nat) (p : Pl), t[i]? = some 10 → (∀ j b, i < j → t[j]? = some b → b ≠ 10) → adv p t = (p.1 + t.count 10, (t.length : Int) - i) := by
  induction t with
  | nil => intro i p h; simp at h
  | cons b r ih =>
    intro i p h hn
    cases i with
    | zero =>
      simp only [List.getElem?_cons_zero, Option.some.injEq] at h
      subst h
      have hr : ∀ x ∈ r, x ≠ 10 := fun x hx => by
        obtain ⟨j, hj, rfl⟩ := List.getElem_of_mem hx
        exact hn (j + 1) _ (by omega) (by rw [List.getElem?_cons_succ, List.getElem?_eq_getElem hj])
      show adv (adv1 p 10) r = _
      rw [adv_none r hr]
      have hc : r.count 10 = 0 := List.count_eq_zero.2 fun hm => hr 10 hm rfl
      simp only [adv1, if_true, List.count_cons_self, hc, List.length_cons]
      ext <;> simp; omega
    | succ i =>
      rw [List.getElem?_cons_succ] at h
      show adv (adv1 p b) r = _
      rw [ih i (adv1 p b) h (fun j x hj hx => hn (j + 1) x (by omega) (by rw [List.getElem?_cons_succ]; exact hx))]
      by_cases hb : b = 10
      · subst hb
        simp only [adv1, if_true, List.count_cons_self, List.length_cons]
        ext <;> simp <;> omega
      · simp only [adv1, if_neg hb, List.count_cons_of_ne hb, List.length_cons]
        ext <;> simp <;> omega

theorem takes_calls (g n : Nat) (s : ByteArray) (hn : n ≤ s.size) (hs : s.size ≤ 281474976710656) (p : Pl) (hp : 0 ≤ p.1 ∧ p.1 ≤ 1000000000000000 ∧ 0 ≤ p.2 ∧ p.2 ≤ 1000000000000000) (w : World)
    (hb : Blk w g 54 #[.string s, .int .i64 p.1, .int .i64 p.2]) :
    Calls Tryz.prog 12 #[.pointer (some ⟨g, 0, none⟩), .int .i64 n] w fun e w' => e = .returned (.string (s.extract 0 n)) ∧
      Blk w' g 54 #[.string (s.extract n s.size), .int .i64 (adv p (s.data.toList.take n)).1, .int .i64 (adv p (s.data.toList.take n)).2] ∧ w.grownBy w' (some g) := by
  have hl := Lib.extract_from_zero s n
  have hlen : (s.data.toList.take n).length = n := by rw [List.length_take, Array.length_toList]; exact Nat.min_eq_left hn
  have hsz : (s.extract 0 n).size = n := by rw [ByteArray.size_extract]; omega
  have key : ∀ j (hj : j < n), (s.extract 0 n).data[j]! = (s.data.toList.take n)[j]'(by omega) := by
    intro j hj
    rw [getElem!_pos _ j (by show j < (s.extract 0 n).size; omega), ← Array.getElem_toList]
    simp only [hl]
  rcases Lib.lastIndexByte_spec (s.extract 0 n) 10 with ⟨h1, h2⟩ | ⟨i, hi, h1, h2, h3⟩
  · refine (takes_none g n s hn hs p.1 p.2 hp.2.2.1 hp.2.2.2 w hb h1).mono ?_
    rintro e w' ⟨he, hb', hg⟩
    refine ⟨he, ?_, hg⟩
    have := adv_none (s.data.toList.take n) (fun b hb => by
      obtain ⟨j, hj, rfl⟩ := List.getElem_of_mem hb
      have hj' : j < n := by omega
      have := h2 j (by omega)
      rw [key j hj'] at this
      intro e
      rw [e] at this
      exact this rfl) p
    rw [this, hlen]
    exact hb'
  · rw [hsz] at hi h3
    have hc : Lib.countByte (s.extract 0 n).data.toList 10 = (s.data.toList.take n).count 10 := by rw [hl]; rfl
    refine (takes_some g n s hn hs p.1 p.2 hp.1 hp.2.1 w hb i ((s.data.toList.take n).count 10) h1 hi hc (by have := List.count_le_length (a := (10 : UInt8)) (l := s.data.toList.take n); omega)).mono ?_
    rintro e w' ⟨he, hb', hg⟩
    refine ⟨he, ?_, hg⟩
    have e10 : ∀ b : UInt8, ((b.toNat : Int) = 10) → b = 10 := fun b h => UInt8.toNat_inj.1 (by simpa using (show b.toNat = 10 by omega))
    have := adv_some (s.data.toList.take n) i p (by
      rw [List.getElem?_eq_getElem (by omega)]
      rw [key i hi] at h2
      rw [e10 _ h2]) (fun j b hj hb => by
      obtain ⟨hjl, rfl⟩ := List.getElem?_eq_some_iff.1 hb
      have := h3 j hj (by omega)
      rw [key j (by omega)] at this
      intro e
      rw [e] at this
      exact this rfl)
    rw [this, hlen]
    exact hb'
end Go.Proofs.YtlneonmbhgppeaaGreatDoor
