/- A Book looks at its lists of words. Condition: it holds below 50. -/
import Derived.Test.YtlneonmbhgppeaaGreatDoorBg
namespace Go.Proofs.YtlneonmbhgppeaaGreatDoor
open Go.RowKit
set_option linter.unusedVariables false
theorem marksV_get (j : Nat) : ∀ (n k : Nat), k < n → (marksV j n)[k * 4]? = some (.int .u8 0) ∧ (marksV j n)[k * 4 + 1]? = some (.string (markT j)) ∧ (marksV j n)[k * 4 + 2]? = some (.int .i64 0) ∧ (marksV j n)[k * 4 + 3]? = some (.int .i64 0) := by
  intro n
  induction n with
  | zero => intro k h; omega
  | succ n ih =>
    intro k h
    have hl := marksV_length j n
    simp only [marksV]
    by_cases hk : k < n
    · have := ih k hk
      rw [List.getElem?_append_left (by omega), List.getElem?_append_left (by omega), List.getElem?_append_left (by omega), List.getElem?_append_left (by omega)]
      exact this
    · have hkn : k = n := by omega
      subst hkn
      rw [List.getElem?_append_right (by omega), List.getElem?_append_right (by omega), List.getElem?_append_right (by omega), List.getElem?_append_right (by omega), hl]
      have e1 : k * 4 - k * 4 = 0 := by omega
      have e2 : k * 4 + 1 - k * 4 = 1 := by omega
      have e3 : k * 4 + 2 - k * 4 = 2 := by omega
      have e4 : k * 4 + 3 - k * 4 = 3 := by omega
      rw [e1, e2, e3, e4]
      exact ⟨rfl, rfl, rfl, rfl⟩
section
variable {P : Program} {ops : Array Oper} {Q : Exit → Act → World → Prop} {md : Region.Mode} {S : World → Prop}
/-- a step whose guard is false -/
theorem skip_at {i : Nat} {d : Nat} {oi : Oper} {fuel : Nat} {listed : Array Bool} {a : Act} {w : World} (hi : ops[i]? = some oi) (hd : oi.dst = some d)
    (hs : Region.noSelect ops = true) (hf : Region.free md ops listed i = true) (hr : (Region.ready md ops listed).contains i = true)
    (hQ : ∀ c a w, Q (.panic c) (a.put (some d) undef) w → Q (.panic c) a w) (hw : Region.wanted oi (yielded ops a.tmps) = false) (hS : S w)
    (h : wpAnyH P md ops Q S fuel (listed.setIfInBounds i true) (a.put (some d) undef) w) : wpAnyH P md ops Q S (fuel + 1) listed a w :=
  wpAnyH_take (v := undef) hi hs hf hr (fun c a w h => hQ c a w (by rw [hd] at h; exact h)) (Or.inr ⟨hw, rfl⟩) hS (by rw [hd]; exact h)
/-- a step that yields what is told -/
theorem take_at {i : Nat} {d : Nat} {v : Value} {oi : Oper} {fuel : Nat} {listed : Array Bool} {a : Act} {w : World} (hi : ops[i]? = some oi) (hd : oi.dst = some d)
    (hs : Region.noSelect ops = true) (hf : Region.free md ops listed i = true) (hr : (Region.ready md ops listed).contains i = true)
    (hQ : ∀ c a w, Q (.panic c) (a.put (some d) v) w → Q (.panic c) a w) (hw : Region.wanted oi (yielded ops a.tmps) = true) (hS : S w) (hy : ∀ w, S w → (execOp a.eval oi).run P w = .ok (.value v) w)
    (h : wpAnyH P md ops Q S fuel (listed.setIfInBounds i true) (a.put (some d) v) w) : wpAnyH P md ops Q S (fuel + 1) listed a w :=
  wpAnyH_take (v := v) hi hs hf hr (fun c a w h => hQ c a w (by rw [hd] at h; exact h)) (Or.inl ⟨hw, hy⟩) hS (by rw [hd]; exact h)
end
theorem isWord_true (k l c : Value) (n : Nat) (hn : n < 100) (w : World) :
    Calls Tryz.prog 104 #[.agg #[k, .string (markT n), l, c], .int .i64 n] w (fun e w' => e = .returned (.bool true) ∧ Below w.heap.size w w') := by
  refine (isWord_calls k _ l c (markT n) rfl n hn w).mono ?_
  rintro e w' ⟨rfl, h⟩
  exact ⟨by simp, h⟩
theorem keep_cell {W w' : World} {a : Addr} {v : Value} (hb : Below W.heap.size W w') (h : W.cell? a = some v) : w'.cell? a = some v := by
  have hl := World.block_lt_of_cell? W _ h
  have e := hb.block a.block hl
  rw [World.cell?_of_block (w := W) e]
  exact h
set_option maxHeartbeats 4000000 in
set_option maxRecDepth 100000 in
theorem lookWord_calls (base kb : Nat) (bv : Value) (E : List Ent) (w : World) (hB : BW w base kb bv E) (hm : E.length < 50) (h7 : base ≤ w.heap.size)
    (hmk : ∀ (i : Nat) (e : Ent), E[i]? = some e → e.ln = e.n + 40 ∧ e.lxs = marksV (1 + i) (e.n + 40) ∧ e.xs = marksV (1 + i) e.n ∧ e.n ≤ 16777216) :
    Calls Tryz.prog 59 #[.pointer (some ⟨kb, 0, none⟩)] w (fun e w' => e = .returned (.bool true) ∧ Below base w w') := by
  have HB := Lib.hid hB
  have HMK := Lib.hid hmk
  clear hB hmk
  obtain ⟨bA, bc, hbv⟩ := own_slice HB.out.row
  subst hbv
  go_enter Tryz.func59, Tryz.ntmps59
  go_wp2_with fail
  go_loopw [3] (fun v wr => ∃ i, v = .int .i64 ((i : Nat) : Int) ∧ i ≤ E.length ∧ BW wr base kb (.slice bA E.length bc) E ∧ Below base w wr) (fun v wr => E.length - (RowKit.intOf v).toNat)
  case atStart => exact ⟨0, rfl, by omega, HB.out, Below.refl _ _⟩
  case round =>
    obtain ⟨w1, hw1⟩ : ∃ x : World, x = wr := ⟨_, rfl⟩
    subst hw1
    obtain ⟨i, rfl, hi, hb, hbel⟩ := hrel
    have h15 := hb.bk.cell 15
    simp [bookC] at h15
    by_cases hlt : i < E.length
    · obtain ⟨e, he⟩ : ∃ e, E[i]? = some e := ⟨_, List.getElem?_eq_getElem hlt⟩
      have hrow := hb.row
      obtain ⟨gb, cb, hgv, hgbb, hgbl⟩ := hrow.form (by omega)
      injection hgv with hgv _ hgc
      subst hgv hgc
      have hg := rowsV_get E 1 i e he
      have c0 := hrow.cellAt (i * 3) (by omega)
      have c1 := hrow.cellAt (i * 3 + 1) (by omega)
      have c2 := hrow.cellAt (i * 3 + 2) (by omega)
      rw [hg.1] at c0
      rw [hg.2.1] at c1
      rw [hg.2.2] at c2
      have hown := hb.lst i e he
      have hn4 := HMK.out i e he
      obtain ⟨A, c, hv⟩ := own_slice hown.1
      obtain ⟨v, n, xs, long, ln, lxs⟩ := e
      simp only at hv hown c0 c1 hn4
      obtain ⟨hn1, hn2, hn3, hn5⟩ := hn4
      rw [← hn1] at hn2
      obtain ⟨gl, cl, hlv, _, _⟩ := hown.2.form (by show 0 < ln; omega)
      change long = _ at hlv
      subst hv hlv hn2 hn3
      have ht : (ln : Int) = (n : Int) + 40 := by omega
      have ht2 : ((ln : Int) == (n : Int) + 40) = true := by rw [beq_iff_eq]; exact ht
      have HT := Lib.hid ht
      have HN1 := Lib.hid hn1
      clear ht hn1
      have HBW := Lib.hid hb
      have HBL := Lib.hid hbel
      have HOWN := Lib.hid hown
      clear hb hbel hrow hg hown
      have hbs : base ≤ w1.heap.size := by have := HBL.out.size; omega
      go_wp2_with fail
      go_loopw [5] (fun v5 wq => ∃ k, v5 = .int .i64 ((k : Nat) : Int) ∧ k ≤ ln ∧ BW wq base kb (.slice (some ⟨gb, 0, none⟩) E.length bc) E ∧ Below base w wq ∧ Blk wq w1.heap.size 77 #[.slice A n c, .slice (some ⟨gl, 0, none⟩) ln cl, .int .i64 (1 + (i : Int))]) (fun v5 wq => ln - (RowKit.intOf v5).toNat)
      case atStart => exact ⟨0, rfl, by omega, HBW.out.alloc _, HBL.out.alloc hbs _, Blk.new _ _ _⟩
      case round =>
        obtain ⟨k, rfl, hk, hbq, hblq, hblk⟩ := hrel
        have d0 := hblk.cell 0
        have d1 := hblk.cell 1
        have d2 := hblk.cell 2
        simp at d0 d1 d2
        have hsz := hblq.size
        by_cases hkn : k < ln
        · have hlx := (hbq.lst i _ he).2
          have hvx := (hbq.lst i _ he).1
          have mg := marksV_get (1 + i) (n + 40) k (by have := HN1.out; omega)
          rw [← HN1.out] at mg
          have d3 := (hlx.cellAt (k * 4) (by show _ < ln * 4; omega)).trans mg.1
          have d4 := (hlx.cellAt (k * 4 + 1) (by show _ < ln * 4; omega)).trans mg.2.1
          have d5 := (hlx.cellAt (k * 4 + 2) (by show _ < ln * 4; omega)).trans mg.2.2.1
          have d6 := (hlx.cellAt (k * 4 + 3) (by show _ < ln * 4; omega)).trans mg.2.2.2
          have HBQ := Lib.hid hbq
          have HBLQ := Lib.hid hblq
          have HBLK := Lib.hid hblk
          clear hbq hblq hblk mg hlx
          by_cases hkv : k < n
          · obtain ⟨gv, cv, hgv, _, _⟩ := hvx.form (by show 0 < n; omega)
            change Value.slice A n c = _ at hgv
            injection hgv with hgv _ hgc
            subst hgv hgc
            have mg := marksV_get (1 + i) n k hkv
            have d7 := (hvx.cellAt (k * 4) (by show _ < n * 4; omega)).trans mg.1
            have d8 := (hvx.cellAt (k * 4 + 1) (by show _ < n * 4; omega)).trans mg.2.1
            have d9 := (hvx.cellAt (k * 4 + 2) (by show _ < n * 4; omega)).trans mg.2.2.1
            have d10 := (hvx.cellAt (k * 4 + 3) (by show _ < n * 4; omega)).trans mg.2.2.2
            clear mg hvx
            have hdk : decide ((k : Int) < (n : Int)) = true := by rw [decide_eq_true_eq]; omega
            go_wp2_with fail
            go_region_held3 (fun W => W.cell? ⟨w1.heap.size, 0, none⟩ = some (.slice (some ⟨gv, 0, none⟩) n c) ∧ W.cell? ⟨w1.heap.size, 1, none⟩ = some (.slice (some ⟨gl, 0, none⟩) ln cl) ∧ W.cell? ⟨w1.heap.size, 2, none⟩ = some (.int .i64 (1 + (i : Int))) ∧ W.cell? ⟨gl, k * 4, none⟩ = some (.int .u8 0) ∧ W.cell? ⟨gl, k * 4 + 1, none⟩ = some (.string (markT (1 + i))) ∧ W.cell? ⟨gl, k * 4 + 2, none⟩ = some (.int .i64 0) ∧ W.cell? ⟨gl, k * 4 + 3, none⟩ = some (.int .i64 0) ∧ W.cell? ⟨gv, k * 4, none⟩ = some (.int .u8 0) ∧ W.cell? ⟨gv, k * 4 + 1, none⟩ = some (.string (markT (1 + i))) ∧ W.cell? ⟨gv, k * 4 + 2, none⟩ = some (.int .i64 0) ∧ W.cell? ⟨gv, k * 4 + 3, none⟩ = some (.int .i64 0)) (first | with_reducible exact ⟨d0, d1, d2, d3, d4, d5, d6, d7, d8, d9, d10⟩ | with_reducible exact ⟨q0, q1, q2, q3, q4, q5, q6, q7, q8, q9, q10⟩ | with_reducible assumption | go_keep) (first | (go_at_call 104; refine (isWord_true _ _ _ (1 + i) (by omega) _).mono ?_; rintro e w4 ⟨rfl, hb4⟩; have hx : Below wr.heap.size wr w4 := (by first | exact HX.out.trans (hb4.mono HX.out.size) | exact (Below.refl wr.heap.size wr).drew.trans hb4); have HX := Lib.hid hx; clear hx hb4; have q0 := keep_cell HX.out d0; have q1 := keep_cell HX.out d1; have q2 := keep_cell HX.out d2; have q3 := keep_cell HX.out d3; have q4 := keep_cell HX.out d4; have q5 := keep_cell HX.out d5; have q6 := keep_cell HX.out d6; have q7 := keep_cell HX.out d7; have q8 := keep_cell HX.out d8; have q9 := keep_cell HX.out d9; have q10 := keep_cell HX.out d10;))
            go_wp2
            go_roundw
            case rel => exact ⟨k + 1, by simp, by omega, HBQ.out.below HX.out, HBLQ.out.trans (HX.out.mono (by omega)), HBLK.out.belowW HX.out⟩
            case measure => simp [RowKit.intOf]; omega
          · clear hvx
            have hk63 : k < 16777300 := by have := HN1.out; omega
            have hdk : decide ((k : Int) < (n : Int)) = false := by rw [decide_eq_false_iff_not]; omega
            go_wp2_with fail
            refine wp_region_held_drew (S := fun W => W.cell? ⟨w1.heap.size, 0, none⟩ = some (.slice A n c) ∧ W.cell? ⟨w1.heap.size, 1, none⟩ = some (.slice (some ⟨gl, 0, none⟩) ln cl) ∧ W.cell? ⟨w1.heap.size, 2, none⟩ = some (.int .i64 (1 + (i : Int))) ∧ W.cell? ⟨gl, k * 4, none⟩ = some (.int .u8 0) ∧ W.cell? ⟨gl, k * 4 + 1, none⟩ = some (.string (markT (1 + i))) ∧ W.cell? ⟨gl, k * 4 + 2, none⟩ = some (.int .i64 0) ∧ W.cell? ⟨gl, k * 4 + 3, none⟩ = some (.int .i64 0)) (by kernel_rfl) ⟨d0, d1, d2, d3, d4, d5, d6⟩ (fun hHeld => ?_)
            refine take_at (i := 0) (d := 37) (v := .pointer (some ⟨w1.heap.size, 1, none⟩)) rfl rfl (by kernel_rfl) (by kernel_rfl) (by kernel_rfl) (fun _ _ _ h => h) (by rfl) (by assumption) (fun W hW => ?_) ?_
            · obtain ⟨x0, x1, x2, x3, x4, x5, x6⟩ := hW
              dsimp only [List.getElem_toArray, List.getElem_cons_succ, List.getElem_cons_zero]
              go_simp
            try simp only [Act.put, List.setIfInBounds_toArray, List.set_cons_zero, List.set_cons_succ]
            refine take_at (i := 1) (d := 38) (v := .slice (some ⟨gl, 0, none⟩) ln cl) rfl rfl (by kernel_rfl) (by kernel_rfl) (by kernel_rfl) (fun _ _ _ h => h) (by rfl) (by assumption) (fun W hW => ?_) ?_
            · obtain ⟨x0, x1, x2, x3, x4, x5, x6⟩ := hW
              dsimp only [List.getElem_toArray, List.getElem_cons_succ, List.getElem_cons_zero]
              go_simp
            try simp only [Act.put, List.setIfInBounds_toArray, List.set_cons_zero, List.set_cons_succ]
            refine take_at (i := 2) (d := 39) (v := .int .i64 (k : Int)) rfl rfl (by kernel_rfl) (by kernel_rfl) (by kernel_rfl) (fun _ _ _ h => h) (by rfl) (by assumption) (fun W hW => ?_) ?_
            · obtain ⟨x0, x1, x2, x3, x4, x5, x6⟩ := hW
              dsimp only [List.getElem_toArray, List.getElem_cons_succ, List.getElem_cons_zero]
              go_simp
            try simp only [Act.put, List.setIfInBounds_toArray, List.set_cons_zero, List.set_cons_succ]
            refine take_at (i := 3) (d := 40) (v := .pointer (some ⟨gl, k * 4, none⟩)) rfl rfl (by kernel_rfl) (by kernel_rfl) (by kernel_rfl) (fun _ _ _ h => h) (by rfl) (by assumption) (fun W hW => ?_) ?_
            · obtain ⟨x0, x1, x2, x3, x4, x5, x6⟩ := hW
              dsimp only [List.getElem_toArray, List.getElem_cons_succ, List.getElem_cons_zero]
              go_simp
            try simp only [Act.put, List.setIfInBounds_toArray, List.set_cons_zero, List.set_cons_succ]
            refine take_at (i := 4) (d := 41) (v := .agg #[.int .u8 0, .string (markT (1 + i)), .int .i64 0, .int .i64 0]) rfl rfl (by kernel_rfl) (by kernel_rfl) (by kernel_rfl) (fun _ _ _ h => h) (by rfl) (by assumption) (fun W hW => ?_) ?_
            · obtain ⟨x0, x1, x2, x3, x4, x5, x6⟩ := hW
              dsimp only [List.getElem_toArray, List.getElem_cons_succ, List.getElem_cons_zero]
              go_simp
            try simp only [Act.put, List.setIfInBounds_toArray, List.set_cons_zero, List.set_cons_succ]
            refine take_at (i := 5) (d := 42) (v := .pointer (some ⟨w1.heap.size, 2, none⟩)) rfl rfl (by kernel_rfl) (by kernel_rfl) (by kernel_rfl) (fun _ _ _ h => h) (by rfl) (by assumption) (fun W hW => ?_) ?_
            · obtain ⟨x0, x1, x2, x3, x4, x5, x6⟩ := hW
              dsimp only [List.getElem_toArray, List.getElem_cons_succ, List.getElem_cons_zero]
              go_simp
            try simp only [Act.put, List.setIfInBounds_toArray, List.set_cons_zero, List.set_cons_succ]
            refine take_at (i := 6) (d := 43) (v := .int .i64 (1 + (i : Int))) rfl rfl (by kernel_rfl) (by kernel_rfl) (by kernel_rfl) (fun _ _ _ h => h) (by rfl) (by assumption) (fun W hW => ?_) ?_
            · obtain ⟨x0, x1, x2, x3, x4, x5, x6⟩ := hW
              dsimp only [List.getElem_toArray, List.getElem_cons_succ, List.getElem_cons_zero]
              go_simp
            try simp only [Act.put, List.setIfInBounds_toArray, List.set_cons_zero, List.set_cons_succ]
            refine wpAnyH_ready (rs := [7]) (by kernel_rfl) (by simp) ?_
            refine AllReadyH.cons rfl (fun K hK => ?_) AllReadyH.nil
            dsimp only [List.getElem_toArray, List.getElem_cons_succ, List.getElem_cons_zero]
            go_simp
            refine (isWord_true _ _ _ (1 + i) (by omega) _).mono ?_
            rintro e w4 ⟨rfl, hb4⟩
            have hx : Below wr.heap.size wr w4 := (Below.refl wr.heap.size wr).drew.trans hb4
            have HX := Lib.hid hx
            clear hx hb4
            have q0 := keep_cell HX.out d0
            have q1 := keep_cell HX.out d1
            have q2 := keep_cell HX.out d2
            have q3 := keep_cell HX.out d3
            have q4 := keep_cell HX.out d4
            have q5 := keep_cell HX.out d5
            have q6 := keep_cell HX.out d6
            go_wp2_with fail
            refine hK.out _ _ ⟨q0, q1, q2, q3, q4, q5, q6⟩ (fun hHeld2 => ?_)
            clear hK K hHeld
            try simp only [Act.put, List.setIfInBounds_toArray, List.set_cons_zero, List.set_cons_succ]
            refine take_at (i := 8) (d := 45) (v := .bool false) rfl rfl (by kernel_rfl) (by kernel_rfl) (by kernel_rfl) (fun _ _ _ h => h) (by rfl) (by assumption) (fun W hW => ?_) ?_
            · obtain ⟨x0, x1, x2, x3, x4, x5, x6⟩ := hW
              dsimp only [List.getElem_toArray, List.getElem_cons_succ, List.getElem_cons_zero]
              go_simp
            try simp only [Act.put, List.setIfInBounds_toArray, List.set_cons_zero, List.set_cons_succ]
            refine take_at (i := 9) (d := 46) (v := .bool false) rfl rfl (by kernel_rfl) (by kernel_rfl) (by kernel_rfl) (fun _ _ _ h => h) (by rfl) (by assumption) (fun W hW => ?_) ?_
            · obtain ⟨x0, x1, x2, x3, x4, x5, x6⟩ := hW
              dsimp only [List.getElem_toArray, List.getElem_cons_succ, List.getElem_cons_zero]
              go_simp
            try simp only [Act.put, List.setIfInBounds_toArray, List.set_cons_zero, List.set_cons_succ]
            refine take_at (i := 10) (d := 47) (v := .int .i64 (k : Int)) rfl rfl (by kernel_rfl) (by kernel_rfl) (by kernel_rfl) (fun _ _ _ h => h) (by rfl) (by assumption) (fun W hW => ?_) ?_
            · obtain ⟨x0, x1, x2, x3, x4, x5, x6⟩ := hW
              dsimp only [List.getElem_toArray, List.getElem_cons_succ, List.getElem_cons_zero]
              go_simp
            try simp only [Act.put, List.setIfInBounds_toArray, List.set_cons_zero, List.set_cons_succ]
            refine take_at (i := 11) (d := 48) (v := .pointer (some ⟨w1.heap.size, 0, none⟩)) rfl rfl (by kernel_rfl) (by kernel_rfl) (by kernel_rfl) (fun _ _ _ h => h) (by rfl) (by assumption) (fun W hW => ?_) ?_
            · obtain ⟨x0, x1, x2, x3, x4, x5, x6⟩ := hW
              dsimp only [List.getElem_toArray, List.getElem_cons_succ, List.getElem_cons_zero]
              go_simp
            try simp only [Act.put, List.setIfInBounds_toArray, List.set_cons_zero, List.set_cons_succ]
            refine take_at (i := 12) (d := 49) (v := .slice A n c) rfl rfl (by kernel_rfl) (by kernel_rfl) (by kernel_rfl) (fun _ _ _ h => h) (by rfl) (by assumption) (fun W hW => ?_) ?_
            · obtain ⟨x0, x1, x2, x3, x4, x5, x6⟩ := hW
              dsimp only [List.getElem_toArray, List.getElem_cons_succ, List.getElem_cons_zero]
              go_simp
            try simp only [Act.put, List.setIfInBounds_toArray, List.set_cons_zero, List.set_cons_succ]
            refine take_at (i := 13) (d := 50) (v := .int .i64 (n : Int)) rfl rfl (by kernel_rfl) (by kernel_rfl) (by kernel_rfl) (fun _ _ _ h => h) (by rfl) (by assumption) (fun W hW => ?_) ?_
            · obtain ⟨x0, x1, x2, x3, x4, x5, x6⟩ := hW
              dsimp only [List.getElem_toArray, List.getElem_cons_succ, List.getElem_cons_zero]
              go_simp
            try simp only [Act.put, List.setIfInBounds_toArray, List.set_cons_zero, List.set_cons_succ]
            refine take_at (i := 14) (d := 51) (v := .bool false) rfl rfl (by kernel_rfl) (by kernel_rfl) (by kernel_rfl) (fun _ _ _ h => h) (by rfl) (by assumption) (fun W hW => ?_) ?_
            · obtain ⟨x0, x1, x2, x3, x4, x5, x6⟩ := hW
              dsimp only [List.getElem_toArray, List.getElem_cons_succ, List.getElem_cons_zero]
              go_simp
            try simp only [Act.put, List.setIfInBounds_toArray, List.set_cons_zero, List.set_cons_succ]
            refine take_at (i := 15) (d := 52) (v := .bool false) rfl rfl (by kernel_rfl) (by kernel_rfl) (by kernel_rfl) (fun _ _ _ h => h) (by rfl) (by assumption) (fun W hW => ?_) ?_
            · obtain ⟨x0, x1, x2, x3, x4, x5, x6⟩ := hW
              dsimp only [List.getElem_toArray, List.getElem_cons_succ, List.getElem_cons_zero]
              go_simp
            try simp only [Act.put, List.setIfInBounds_toArray, List.set_cons_zero, List.set_cons_succ]
            refine skip_at (i := 16) (d := 53) rfl rfl (by kernel_rfl) (by kernel_rfl) (by kernel_rfl) (fun _ _ _ h => h) (by rfl) (by assumption) ?_
            try simp only [Act.put, List.setIfInBounds_toArray, List.set_cons_zero, List.set_cons_succ]
            refine skip_at (i := 17) (d := 54) rfl rfl (by kernel_rfl) (by kernel_rfl) (by kernel_rfl) (fun _ _ _ h => h) (by rfl) (by assumption) ?_
            try simp only [Act.put, List.setIfInBounds_toArray, List.set_cons_zero, List.set_cons_succ]
            refine skip_at (i := 18) (d := 55) rfl rfl (by kernel_rfl) (by kernel_rfl) (by kernel_rfl) (fun _ _ _ h => h) (by rfl) (by assumption) ?_
            try simp only [Act.put, List.setIfInBounds_toArray, List.set_cons_zero, List.set_cons_succ]
            refine skip_at (i := 19) (d := 56) rfl rfl (by kernel_rfl) (by kernel_rfl) (by kernel_rfl) (fun _ _ _ h => h) (by rfl) (by assumption) ?_
            try simp only [Act.put, List.setIfInBounds_toArray, List.set_cons_zero, List.set_cons_succ]
            refine skip_at (i := 20) (d := 57) rfl rfl (by kernel_rfl) (by kernel_rfl) (by kernel_rfl) (fun _ _ _ h => h) (by rfl) (by assumption) ?_
            try simp only [Act.put, List.setIfInBounds_toArray, List.set_cons_zero, List.set_cons_succ]
            refine skip_at (i := 21) (d := 58) rfl rfl (by kernel_rfl) (by kernel_rfl) (by kernel_rfl) (fun _ _ _ h => h) (by rfl) (by assumption) ?_
            try simp only [Act.put, List.setIfInBounds_toArray, List.set_cons_zero, List.set_cons_succ]
            refine skip_at (i := 22) (d := 59) rfl rfl (by kernel_rfl) (by kernel_rfl) (by kernel_rfl) (fun _ _ _ h => h) (by rfl) (by assumption) ?_
            try simp only [Act.put, List.setIfInBounds_toArray, List.set_cons_zero, List.set_cons_succ]
            refine skip_at (i := 23) (d := 60) rfl rfl (by kernel_rfl) (by kernel_rfl) (by kernel_rfl) (fun _ _ _ h => h) (by rfl) (by assumption) ?_
            try simp only [Act.put, List.setIfInBounds_toArray, List.set_cons_zero, List.set_cons_succ]
            refine skip_at (i := 24) (d := 61) rfl rfl (by kernel_rfl) (by kernel_rfl) (by kernel_rfl) (fun _ _ _ h => h) (by rfl) (by assumption) ?_
            try simp only [Act.put, List.setIfInBounds_toArray, List.set_cons_zero, List.set_cons_succ]
            refine take_at (i := 25) (d := 62) (v := .bool false) rfl rfl (by kernel_rfl) (by kernel_rfl) (by kernel_rfl) (fun _ _ _ h => h) (by rfl) (by assumption) (fun W hW => ?_) ?_
            · obtain ⟨x0, x1, x2, x3, x4, x5, x6⟩ := hW
              dsimp only [List.getElem_toArray, List.getElem_cons_succ, List.getElem_cons_zero]
              go_simp
            try simp only [Act.put, List.setIfInBounds_toArray, List.set_cons_zero, List.set_cons_succ]
            refine take_at (i := 26) (d := 63) (v := .bool false) rfl rfl (by kernel_rfl) (by kernel_rfl) (by kernel_rfl) (fun _ _ _ h => h) (by rfl) (by assumption) (fun W hW => ?_) ?_
            · obtain ⟨x0, x1, x2, x3, x4, x5, x6⟩ := hW
              dsimp only [List.getElem_toArray, List.getElem_cons_succ, List.getElem_cons_zero]
              go_simp
            try simp only [Act.put, List.setIfInBounds_toArray, List.set_cons_zero, List.set_cons_succ]
            refine wpAnyH_done (by kernel_rfl) ?_ _
            go_wp2
            go_roundw
            case rel => exact ⟨k + 1, by simp, by omega, HBQ.out.below HX.out, HBLQ.out.trans (HX.out.mono (by omega)), HBLK.out.belowW HX.out⟩
            case measure => simp [RowKit.intOf]; omega
        · have : k = ln := by omega
          subst this
          have HBQ := Lib.hid hbq
          have HBLQ := Lib.hid hblq
          clear hbq hblq hblk
          go_wp2_with fail
          refine ⟨⟨i + 1, by simp, by omega, HBQ.out, HBLQ.out⟩, by simp [RowKit.intOf]; omega⟩
    · have : i = E.length := by omega
      subst this
      have HBL := Lib.hid hbel
      clear hb hbel
      go_wp2_with fail
      go_ret
      exact ⟨rfl, HBL.out⟩
end Go.Proofs.YtlneonmbhgppeaaGreatDoor
