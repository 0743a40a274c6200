/- The law WordsOf: the walk. Condition: the laid variables lie as their texts lay them. -/
import Derived.Test.YtlneonmbhgppeaaGreatDoorRt
import Derived.Test.YtlneonmbhgppeaaGreatDoorBi
namespace Go.Proofs.YtlneonmbhgppeaaGreatDoor
open Go.RowKit Go.Proofs.YtlneonmbhgppeaaGreatDoorW.PrintWords Go.Proofs.YtlneonmbhgppeaaGreatDoor.PWordsOf
set_option linter.unusedVariables false
set_option maxRecDepth 100000
set_option maxHeartbeats 1000000 in
theorem bookWords_calls (base kb : Nat) (bv : Value) (A : Option Addr) (k c : Nat) (E : List Ent) (n : Nat) (xs : List Value) (w : World) (hB : BW w base kb bv E) (hm : E.length < 50) (hl : w.ownsRow base 51 4 (.slice A k c) n xs)
    (hap : ∀ (i : Nat) (e : Ent) (g : Nat), E[i]? = some e → e.has g → (Value.slice A k c).ownBlock ≠ some g) (h7 : base ≤ w.heap.size) :
    Calls Tryz.prog 7 #[.pointer (some ⟨kb, 0, none⟩), .slice A k c] w (fun e w' => e = .returned (.tuple #[]) ∧ Below kb w w' ∧ ∃ bv', BW w' base kb bv' (E ++ [⟨.slice A k c, n, xs, .slice none 0 0, 0, []⟩])) := by
  have hk := keepWord_calls base kb bv A k c E n xs w hB hm hl hap h7
  have HK := Lib.hid hk
  clear hk hB hl hap
  go_enter Tryz.func7, Tryz.ntmps7
  go_wp2_with fail
  refine HK.out.mono ?_
  rintro e w1 ⟨rfl, h⟩
  have H := Lib.hid h
  clear h
  go_wp2_with fail
  refine bodyPost_end (results_none rfl _ _ _) rfl ?_
  exact ⟨rfl, H.out⟩
theorem own_upto {w w' : World} {base size n B : Nat} {e : TypeId} {v : Value} {xs : List Value} (h : w.ownsRow base e size v n xs) (hb : Below B w w') (hB : w.heap.size ≤ B ∨ ∀ k, v.ownBlock = some k → k < B) : w'.ownsRow base e size v n xs := by
  refine ⟨h.1, ?_⟩
  rcases h.2 with h2 | ⟨g, cap, cur, rfl, hg, hh, r⟩
  · exact .inl h2
  · refine .inr ⟨g, cap, cur, rfl, hg, ?_, r⟩
    rw [hb.block g ?_]
    · exact hh
    · rcases hB with h1 | h1
      · have := (own_lt h g rfl).2; omega
      · exact h1 g rfl
theorem BW.start (w : World) (base : Nat) (h : base ≤ w.heap.size) : BW (w.alloc (.cells (bookC 0 (.slice none 0 0)) 45)) base w.heap.size (.slice none 0 0) [] :=
  ⟨Blk.new _ _ _, h, World.ownsRow_nil _ _ _ _, fun i e he => by simp at he, fun i j e f g hi => by simp at hi⟩
set_option maxHeartbeats 4000000 in
theorem law_far (s : ByteArray) (h1 : 4000 < s.size) (h2 : s.size ≤ 1048576) (w : World) (hG : Glob w) (h7 : 7 ≤ w.heap.size) :
    Calls Tryz.prog 3 #[.string s] w (fun e w' => e = .returned (.bool true) ∧ Below w.heap.size w w') := by
  have hl := lives_calls w hG h7
  have i1 : (4000 : Int) < (s.size : Int) := by omega
  have i2 : (s.size : Int) ≤ 1048576 := by omega
  have HL := Lib.hid hl
  clear hl
  go_enter Tryz.func3, Tryz.ntmps3
  go_wp2_with fail
  refine HL.out.mono ?_
  rintro e w1 ⟨rfl, hb⟩
  go_wp2_with fail
  go_ret
  exact ⟨rfl, hb⟩
/-- what the chapter answers -/
def refOut (s : ByteArray) : List S51 × Int × Int × Int := if 1048576 < s.size then ([], 1, 1, 3) else Rp.res [] (wordsOf s)
theorem ofL_count : ∀ (f : Nat) (l : List UInt8) (p : Pl) (ws : List Word), (ofL f l p).1 = some ws → ws.length ≤ f + 1 := by
  intro f
  induction f with
  | zero => intro l p ws h; simp [ofL] at h; subst h; simp
  | succ f ih =>
    intro l p ws h
    rw [ofL] at h
    simp only at h
    split at h
    · simp at h; subst h; simp
    · split at h
      · cases h
      · simp only [Option.map_eq_some_iff] at h
        obtain ⟨r, hr, rfl⟩ := h
        have := ih _ _ r hr
        simp
        omega
theorem post_any {w w' : World} {e : Ending} {s : ByteArray} (h : WordsPost w s e w') (hs : s.size ≤ 4000 ∨ 1048576 < s.size) : Below w.heap.size w w' ∧ ∃ A c ws p1 p2 code, e = .returned (.tuple #[.slice A ws.length c, .agg #[.int .i64 p1, .int .i64 p2], .int .i64 code]) ∧
    w'.ownsRow w.heap.size 51 4 (.slice A ws.length c) ws.length (wordsV ws) ∧ refOut s = (ws.map Rp.toS, p1, p2, code) ∧ ws.length ≤ 5000 := by
  obtain ⟨hb, h⟩ := h
  refine ⟨hb, ?_⟩
  unfold refOut
  by_cases hl : 1048576 < s.size
  · rw [if_pos hl] at h ⊢
    exact ⟨none, 0, [], 1, 1, 3, h, World.ownsRow_nil _ _ _ _, rfl, by simp⟩
  · rw [if_neg hl] at h ⊢
    cases hw : (wordsOf s).1 with
    | none =>
      rw [hw] at h
      refine ⟨none, 0, [], _, _, 11, h, World.ownsRow_nil _ _ _ _, ?_, by simp⟩
      unfold Rp.res
      rw [hw]
      rfl
    | some ws =>
      rw [hw] at h
      obtain ⟨v, he, hown⟩ := h
      obtain ⟨A, c, rfl⟩ := own_slice hown
      refine ⟨A, c, ws, _, _, 0, he, hown, ?_, ?_⟩
      · unfold Rp.res
        rw [hw]
        rfl
      · have := ofL_count (s.size + 1) s.data.toList (1, 1) ws hw
        omega
theorem post_same {s : ByteArray} {ws ws' : List Word} {a b c a' b' c' : Int} (h : refOut s = (ws.map Rp.toS, a, b, c)) (h' : refOut s = (ws'.map Rp.toS, a', b', c')) : ws = ws' ∧ a = a' ∧ b = b' ∧ c = c' := by
  rw [h] at h'
  simp only [Prod.mk.injEq] at h'
  obtain ⟨h1, h2, h3, h4⟩ := h'
  have := congrArg (List.map Rp.ofS) h1
  rw [Rp.ofS_toS, Rp.ofS_toS] at this
  exact ⟨this, h2, h3, h4⟩
set_option maxHeartbeats 4000000 in
theorem law_near (s : ByteArray) (hs : s.size ≤ 281474976710656) (hn : ¬ (4000 < s.size ∧ s.size ≤ 1048576)) (w : World) (hG : Glob w) (h7 : 7 ≤ w.heap.size) :
    Calls Tryz.prog 3 #[.string s] w (fun e w' => e = .returned (.bool true) ∧ Below w.heap.size w w') := by
  have c1 := fun W hG h7 => wordsOf_calls s hs W hG h7
  have C1 := Lib.hid c1
  have HG := Lib.hid hG
  clear c1 hG
  have hsz : s.size ≤ 4000 ∨ 1048576 < s.size := by omega
  go_enter Tryz.func3, Tryz.ntmps3
  have HSZ := Lib.hid hsz
  rcases hsz with hsz | hsz
  · have i1 : (s.size : Int) ≤ 4000 := by omega
    go_wp2_with fail
    refine (C1.out w HG.out h7).mono ?_
    intro e w1 hp1
    obtain ⟨hb1, A, c, ws, p1, p2, code, rfl, ho1, hr1, hw1⟩ := post_any hp1 HSZ.out
    have HB1 := Lib.hid hb1
    have HO1 := Lib.hid ho1
    have HR1 := Lib.hid hr1
    have G1 := Lib.hid (HG.out.below hb1)
    have z1 : 7 ≤ w1.heap.size := by have := hb1.size; omega
    clear hb1 hp1 ho1 hr1
    go_wp2_with fail
    have HA1 := Lib.hid ((Below.refl w1.heap.size w1).alloc (Nat.le_refl _) (.cells #[.int .i64 p1, .int .i64 p2] 25))
    have a1 := (Blk.new w1 25 #[.int .i64 p1, .int .i64 p2])
    have HP1 := Lib.hid a1
    clear a1
    obtain ⟨kf, hkf⟩ := Rp.of_eq s
    have hkf2 : cartoucheref20_Of.f kf s = some (ws.map Rp.toS, p1, p2, code) := by
      rw [← HR1.out]; exact hkf
    have HKF := Lib.hid hkf2
    clear hkf hkf2
    refine (cartoucheref20_Of.calls kf s _ p1 p2 code _ HKF.out).mono ?_
    rintro e w2 ⟨v0, rfl, hR2, hb2⟩
    obtain ⟨B, cB, rfl, hlB, hC2⟩ := Kd.R_reads hR2
    have HB2 := Lib.hid (HA1.out.trans (hb2.mono HA1.out.size))
    have HBB2 := Lib.hid hb2
    have HC2 := Lib.hid hC2
    have HLB := Lib.hid hlB
    have G2 := Lib.hid (G1.out.below HB2.out)
    have z2 : 7 ≤ w2.heap.size := by have := HB2.out.size; omega
    rw [List.length_map]
    clear hR2 hb2 hC2 hlB
    go_wp2_with fail
    refine (C1.out _ (G2.out.below ((Below.refl _ _).alloc (Nat.le_refl _) _)) (by simp; omega)).mono ?_
    intro e w3 hp3
    obtain ⟨hb3, A3, c3, ws3, q1, q2, code3, rfl, ho3, hr3, hw3⟩ := post_any hp3 HSZ.out
    obtain ⟨rfl, rfl, rfl, rfl⟩ := post_same HR1.out hr3
    have HA2 := Lib.hid ((Below.refl w2.heap.size w2).alloc (Nat.le_refl _) (.cells #[.int .i64 p1, .int .i64 p2] 25))
    have HP2 := Lib.hid (Blk.new w2 25 #[.int .i64 p1, .int .i64 p2])
    have HB3 := Lib.hid (HA2.out.trans (hb3.mono HA2.out.size))
    have HBB3 := Lib.hid hb3
    have HO3 := Lib.hid ho3
    have G3 := Lib.hid (G2.out.below HB3.out)
    have z3 : 7 ≤ w3.heap.size := by have := HB3.out.size; omega
    have hap3 : ∀ g, (Value.slice A ws.length c).ownBlock = some g → (Value.slice A3 ws.length c3).ownBlock ≠ some g := by
      intro g hg hg3
      have k1 := (own_lt HO1.out g hg).2
      have k3 := (own_lt ho3 g hg3).1
      have := HB2.out.size
      simp at k3
      omega
    have HAP3 := Lib.hid hap3
    clear hb3 hp3 ho3 hr3 hap3
    go_wp2_with fail
    have y1 := HB1.out.size
    have y2 := HB2.out.size
    have y3 := HB3.out.size
    have e4 : (w3.alloc (.cells #[.int .i64 p1, .int .i64 p2] 25)).heap.size = w3.heap.size + 1 := by simp
    have hbw := BW.start (w3.alloc (.cells #[.int .i64 p1, .int .i64 p2] 25)) w.heap.size (by omega)
    rw [e4] at hbw
    have hA4 := ((own_below (own_below HO1.out HB2.out) HB3.out).alloc (.cells #[.int .i64 p1, .int .i64 p2] 25)).alloc (.cells (bookC 0 (.slice none 0 0)) 45)
    refine (bookWords_calls w.heap.size (w3.heap.size + 1) (.slice none 0 0) A ws.length c [] ws.length (wordsV ws) _ hbw (by simp) hA4 (fun i e g hi => by simp at hi) (by simp; omega)).mono ?_
    rintro e w5 ⟨rfl, hb5, bv1, hB5⟩
    have HB5 := Lib.hid hb5
    have HW5 := Lib.hid hB5
    clear hb5 hB5 hbw
    go_wp2_with fail
    have h30 : w.heap.size ≤ (w2.alloc (.cells #[.int .i64 p1, .int .i64 p2] 25)).heap.size := by simp; omega
    have hA5 := own_upto (((own_lower HO3.out h30).alloc (.cells #[.int .i64 p1, .int .i64 p2] 25)).alloc (.cells (bookC 0 (.slice none 0 0)) 45)) HB5.out (.inr (fun k hk => by have := (own_lt HO3.out k hk).2; omega))
    have s5 := HB5.out.size
    simp at s5
    refine (bookWords_calls w.heap.size (w3.heap.size + 1) bv1 A3 ws.length c3 _ ws.length (wordsV ws) _ HW5.out (by simp) hA5 (fun i e g hi hg => by
      rw [List.nil_append] at hi
      cases i with
      | succ i => simp at hi
      | zero =>
        simp at hi
        subst hi
        rcases hg with hg | hg
        · exact HAP3.out g hg
        · simp [Value.ownBlock] at hg) (by omega)).mono ?_
    rintro e w6 ⟨rfl, hb6, bv2, hB6⟩
    have HB6 := Lib.hid (HB5.out.trans hb6)
    have HW6 := Lib.hid hB6
    clear hb6 hB6
    have u1 := (((((HP1.out.belowW HBB2.out).belowW HB3.out).alloc (.cells #[.int .i64 p1, .int .i64 p2] 25)).alloc (.cells (bookC 0 (.slice none 0 0)) 45)).below HB6.out (by omega))
    have u2 := ((((HP2.out.belowW HBB3.out).alloc (.cells #[.int .i64 p1, .int .i64 p2] 25)).alloc (.cells (bookC 0 (.slice none 0 0)) 45)).below HB6.out (by have := (HP2.out.belowW HBB3.out).lt; omega))
    have d0 := u1.cell 0
    have d1 := u1.cell 1
    have d2 := u2.cell 0
    have d3 := u2.cell 1
    simp at d0 d1 d2 d3
    clear u1 u2
    go_wp2_with fail
    have b36 : Below w3.heap.size w3 w6 := (((Below.refl w3.heap.size w3).alloc (Nat.le_refl _) (.cells #[.int .i64 p1, .int .i64 p2] 25)).alloc (by simp) (.cells (bookC 0 (.slice none 0 0)) 45)).trans (HB6.out.mono (by omega))
    have B36 := Lib.hid b36
    have hC1 := Rp.own_C (own_below (own_below (own_below HO1.out HB2.out) HB3.out) b36) rfl
    have hC2 := Kd.C_below (Kd.C_below HC2.out HB3.out) b36
    have hsw := cartouchelaw01_SameWords.calls _ A c (ws.map Rp.toS) B cB (ws.map Rp.toS) true w6 (by rw [List.length_map]; exact hC1.1) (by rw [List.length_map]; exact hC1.2) hC2 HLB.out (Rp.same_eq _ (by simp; omega))
    rw [List.length_map] at hsw
    clear b36 hC1 hC2
    refine hsw.mono ?_
    rintro e w7 ⟨rfl, ⟨nd, rfl⟩⟩
    clear hsw
    go_wp2_with fail
    have HWD := Lib.hid (HW6.out.below (below_drewN (Below.refl _ _) nd))
    have s6 := HB6.out.size
    simp at s6
    refine (apart_calls w.heap.size (w3.heap.size + 1) bv2 _ (w6.drewN nd) HWD.out (by simp) (by show w.heap.size ≤ w6.heap.size; omega) (fun i e he => by
      rw [List.nil_append] at he
      rcases snoc_get he with ⟨h1, _⟩ | ⟨_, rfl⟩
      · cases i with
        | succ i => simp at h1
        | zero =>
          simp at h1
          subst h1
          exact ⟨rfl, rfl, rfl, by show ws.length ≤ _; omega⟩
      · exact ⟨rfl, rfl, rfl, by show ws.length ≤ _; omega⟩)).mono ?_
    rintro e w8 ⟨rfl, hb8⟩
    have b18 : Below w.heap.size w w8 := ((((HB1.out.trans (HB2.out.mono y1)).trans (HB3.out.mono (by omega))).trans (B36.out.mono (by omega))).trans (below_drewN (Below.refl _ _) nd)).trans hb8
    have HB8 := Lib.hid b18
    have z8 : 7 ≤ w8.heap.size := by have := b18.size; omega
    clear hb8 b18
    go_wp2_with fail
    refine (lives_calls w8 (HG.out.below HB8.out) z8).mono ?_
    rintro e w9 ⟨rfl, hb9⟩
    have HB9 := Lib.hid hb9
    clear hb9
    go_wp2_with fail
    go_ret
    exact ⟨rfl, HB8.out.trans (HB9.out.mono HB8.out.size)⟩
  · have i1 : (1048576 : Int) < (s.size : Int) := by omega
    have i2 : (4000 : Int) < (s.size : Int) := by omega
    go_wp2_with fail
    refine (C1.out w HG.out h7).mono ?_
    intro e w1 hp1
    obtain ⟨hb1, A, c, ws, p1, p2, code, rfl, ho1, hr1, hw1⟩ := post_any hp1 HSZ.out
    have HB1 := Lib.hid hb1
    have HO1 := Lib.hid ho1
    have HR1 := Lib.hid hr1
    have G1 := Lib.hid (HG.out.below hb1)
    have z1 : 7 ≤ w1.heap.size := by have := hb1.size; omega
    clear hb1 hp1 ho1 hr1
    go_wp2_with fail
    have HA1 := Lib.hid ((Below.refl w1.heap.size w1).alloc (Nat.le_refl _) (.cells #[.int .i64 p1, .int .i64 p2] 25))
    have a1 := (Blk.new w1 25 #[.int .i64 p1, .int .i64 p2])
    have HP1 := Lib.hid a1
    clear a1
    obtain ⟨kf, hkf⟩ := Rp.of_eq s
    have hkf2 : cartoucheref20_Of.f kf s = some (ws.map Rp.toS, p1, p2, code) := by
      rw [← HR1.out]; exact hkf
    have HKF := Lib.hid hkf2
    clear hkf hkf2
    refine (cartoucheref20_Of.calls kf s _ p1 p2 code _ HKF.out).mono ?_
    rintro e w2 ⟨v0, rfl, hR2, hb2⟩
    obtain ⟨B, cB, rfl, hlB, hC2⟩ := Kd.R_reads hR2
    have HB2 := Lib.hid (HA1.out.trans (hb2.mono HA1.out.size))
    have HBB2 := Lib.hid hb2
    have HC2 := Lib.hid hC2
    have HLB := Lib.hid hlB
    have G2 := Lib.hid (G1.out.below HB2.out)
    have z2 : 7 ≤ w2.heap.size := by have := HB2.out.size; omega
    rw [List.length_map]
    clear hR2 hb2 hC2 hlB
    go_wp2_with fail
    refine (C1.out _ (G2.out.below ((Below.refl _ _).alloc (Nat.le_refl _) _)) (by simp; omega)).mono ?_
    intro e w3 hp3
    obtain ⟨hb3, A3, c3, ws3, q1, q2, code3, rfl, ho3, hr3, hw3⟩ := post_any hp3 HSZ.out
    obtain ⟨rfl, rfl, rfl, rfl⟩ := post_same HR1.out hr3
    have HA2 := Lib.hid ((Below.refl w2.heap.size w2).alloc (Nat.le_refl _) (.cells #[.int .i64 p1, .int .i64 p2] 25))
    have HP2 := Lib.hid (Blk.new w2 25 #[.int .i64 p1, .int .i64 p2])
    have HB3 := Lib.hid (HA2.out.trans (hb3.mono HA2.out.size))
    have HBB3 := Lib.hid hb3
    have HO3 := Lib.hid ho3
    have G3 := Lib.hid (G2.out.below HB3.out)
    have z3 : 7 ≤ w3.heap.size := by have := HB3.out.size; omega
    have hap3 : ∀ g, (Value.slice A ws.length c).ownBlock = some g → (Value.slice A3 ws.length c3).ownBlock ≠ some g := by
      intro g hg hg3
      have k1 := (own_lt HO1.out g hg).2
      have k3 := (own_lt ho3 g hg3).1
      have := HB2.out.size
      simp at k3
      omega
    have HAP3 := Lib.hid hap3
    clear hb3 hp3 ho3 hr3 hap3
    go_wp2_with fail
    have y1 := HB1.out.size
    have y2 := HB2.out.size
    have y3 := HB3.out.size
    have e4 : (w3.alloc (.cells #[.int .i64 p1, .int .i64 p2] 25)).heap.size = w3.heap.size + 1 := by simp
    have hbw := BW.start (w3.alloc (.cells #[.int .i64 p1, .int .i64 p2] 25)) w.heap.size (by omega)
    rw [e4] at hbw
    have hA4 := ((own_below (own_below HO1.out HB2.out) HB3.out).alloc (.cells #[.int .i64 p1, .int .i64 p2] 25)).alloc (.cells (bookC 0 (.slice none 0 0)) 45)
    refine (bookWords_calls w.heap.size (w3.heap.size + 1) (.slice none 0 0) A ws.length c [] ws.length (wordsV ws) _ hbw (by simp) hA4 (fun i e g hi => by simp at hi) (by simp; omega)).mono ?_
    rintro e w5 ⟨rfl, hb5, bv1, hB5⟩
    have HB5 := Lib.hid hb5
    have HW5 := Lib.hid hB5
    clear hb5 hB5 hbw
    go_wp2_with fail
    have h30 : w.heap.size ≤ (w2.alloc (.cells #[.int .i64 p1, .int .i64 p2] 25)).heap.size := by simp; omega
    have hA5 := own_upto (((own_lower HO3.out h30).alloc (.cells #[.int .i64 p1, .int .i64 p2] 25)).alloc (.cells (bookC 0 (.slice none 0 0)) 45)) HB5.out (.inr (fun k hk => by have := (own_lt HO3.out k hk).2; omega))
    have s5 := HB5.out.size
    simp at s5
    refine (bookWords_calls w.heap.size (w3.heap.size + 1) bv1 A3 ws.length c3 _ ws.length (wordsV ws) _ HW5.out (by simp) hA5 (fun i e g hi hg => by
      rw [List.nil_append] at hi
      cases i with
      | succ i => simp at hi
      | zero =>
        simp at hi
        subst hi
        rcases hg with hg | hg
        · exact HAP3.out g hg
        · simp [Value.ownBlock] at hg) (by omega)).mono ?_
    rintro e w6 ⟨rfl, hb6, bv2, hB6⟩
    have HB6 := Lib.hid (HB5.out.trans hb6)
    have HW6 := Lib.hid hB6
    clear hb6 hB6
    have u1 := (((((HP1.out.belowW HBB2.out).belowW HB3.out).alloc (.cells #[.int .i64 p1, .int .i64 p2] 25)).alloc (.cells (bookC 0 (.slice none 0 0)) 45)).below HB6.out (by omega))
    have u2 := ((((HP2.out.belowW HBB3.out).alloc (.cells #[.int .i64 p1, .int .i64 p2] 25)).alloc (.cells (bookC 0 (.slice none 0 0)) 45)).below HB6.out (by have := (HP2.out.belowW HBB3.out).lt; omega))
    have d0 := u1.cell 0
    have d1 := u1.cell 1
    have d2 := u2.cell 0
    have d3 := u2.cell 1
    simp at d0 d1 d2 d3
    clear u1 u2
    go_wp2_with fail
    have b36 : Below w3.heap.size w3 w6 := (((Below.refl w3.heap.size w3).alloc (Nat.le_refl _) (.cells #[.int .i64 p1, .int .i64 p2] 25)).alloc (by simp) (.cells (bookC 0 (.slice none 0 0)) 45)).trans (HB6.out.mono (by omega))
    have B36 := Lib.hid b36
    have hC1 := Rp.own_C (own_below (own_below (own_below HO1.out HB2.out) HB3.out) b36) rfl
    have hC2 := Kd.C_below (Kd.C_below HC2.out HB3.out) b36
    have hsw := cartouchelaw01_SameWords.calls _ A c (ws.map Rp.toS) B cB (ws.map Rp.toS) true w6 (by rw [List.length_map]; exact hC1.1) (by rw [List.length_map]; exact hC1.2) hC2 HLB.out (Rp.same_eq _ (by simp; omega))
    rw [List.length_map] at hsw
    clear b36 hC1 hC2
    refine hsw.mono ?_
    rintro e w7 ⟨rfl, ⟨nd, rfl⟩⟩
    clear hsw
    go_wp2_with fail
    have HWD := Lib.hid (HW6.out.below (below_drewN (Below.refl _ _) nd))
    have s6 := HB6.out.size
    simp at s6
    refine (apart_calls w.heap.size (w3.heap.size + 1) bv2 _ (w6.drewN nd) HWD.out (by simp) (by show w.heap.size ≤ w6.heap.size; omega) (fun i e he => by
      rw [List.nil_append] at he
      rcases snoc_get he with ⟨h1, _⟩ | ⟨_, rfl⟩
      · cases i with
        | succ i => simp at h1
        | zero =>
          simp at h1
          subst h1
          exact ⟨rfl, rfl, rfl, by show ws.length ≤ _; omega⟩
      · exact ⟨rfl, rfl, rfl, by show ws.length ≤ _; omega⟩)).mono ?_
    rintro e w8 ⟨rfl, hb8⟩
    have b18 : Below w.heap.size w w8 := ((((HB1.out.trans (HB2.out.mono y1)).trans (HB3.out.mono (by omega))).trans (B36.out.mono (by omega))).trans (below_drewN (Below.refl _ _) nd)).trans hb8
    have HB8 := Lib.hid b18
    have z8 : 7 ≤ w8.heap.size := by have := b18.size; omega
    clear hb8 b18
    go_wp2_with fail
    refine (lives_calls w8 (HG.out.below HB8.out) z8).mono ?_
    rintro e w9 ⟨rfl, hb9⟩
    have HB9 := Lib.hid hb9
    clear hb9
    go_wp2_with fail
    go_ret
    exact ⟨rfl, HB8.out.trans (HB9.out.mono HB8.out.size)⟩
theorem law_calls (s : ByteArray) (hs : s.size ≤ 281474976710656) (w : World) (hG : Glob w) (h7 : 7 ≤ w.heap.size) :
    Calls Tryz.prog 3 #[.string s] w (fun e w' => e = .returned (.bool true) ∧ Below w.heap.size w w') := by
  by_cases h : 4000 < s.size ∧ s.size ≤ 1048576
  · exact law_far s h.1 h.2 w hG h7
  · exact law_near s hs h w hG h7
end Go.Proofs.YtlneonmbhgppeaaGreatDoor
