/- A Book fills its lists of words with their marks. Condition: it holds below 50. -/
import Derived.Test.YtlneonmbhgppeaaGreatDoorBd
import Derived.Deep.LoopGhost
namespace Go.Proofs.YtlneonmbhgppeaaGreatDoor
open Go.RowKit
set_option linter.unusedVariables false
/-- cells of n marks -/
def markV (j : Nat) : List Value := [.int .u8 0, .string (markT j), .int .i64 0, .int .i64 0]
def marksV (j : Nat) : Nat → List Value
  | 0 => []
  | n + 1 => marksV j n ++ markV j
theorem marksV_length (j n : Nat) : (marksV j n).length = n * 4 := by
  induction n with
  | zero => rfl
  | succ n ih => simp [marksV, markV, ih]; omega
/-- k marks, and what stood behind -/
def mixV (j k : Nat) (xs : List Value) : List Value := marksV j k ++ xs.drop (k * 4)
theorem mixV_step (j k : Nat) (xs : List Value) (h : (k + 1) * 4 ≤ xs.length) : ((((mixV j k xs).set (k * 4) (.int .u8 0)).set (k * 4 + 1) (.string (markT j))).set (k * 4 + 2) (.int .i64 0)).set (k * 4 + 3) (.int .i64 0) = mixV j (k + 1) xs := by
  obtain ⟨a, b, c, d, r, hr⟩ : ∃ a b c d r, xs.drop (k * 4) = a :: b :: c :: d :: r := by
    have hl : (xs.drop (k * 4)).length ≥ 4 := by rw [List.length_drop]; omega
    match hx : xs.drop (k * 4), hl with
    | a :: b :: c :: d :: r, _ => exact ⟨a, b, c, d, r, rfl⟩
  have h2 : xs.drop ((k + 1) * 4) = r := by
    have : (k + 1) * 4 = k * 4 + 4 := by omega
    rw [this, ← List.drop_drop, hr]
    rfl
  have hm := marksV_length j k
  unfold mixV
  rw [h2, hr]
  simp only [marksV, markV]
  rw [List.set_append_right _ _ (by omega), List.set_append_right _ _ (by omega), List.set_append_right _ _ (by omega), List.set_append_right _ _ (by omega)]
  have e0 : k * 4 - (marksV j k).length = 0 := by omega
  have e1 : k * 4 + 1 - (marksV j k).length = 1 := by omega
  have e2 : k * 4 + 2 - (marksV j k).length = 2 := by omega
  have e3 : k * 4 + 3 - (marksV j k).length = 3 := by omega
  rw [e0, e1, e2, e3]
  simp
theorem mixV_zero (j : Nat) (xs : List Value) : mixV j 0 xs = xs := by simp [mixV, marksV]
theorem mixV_all (j n : Nat) (xs : List Value) (h : xs.length = n * 4) : mixV j n xs = marksV j n := by
  unfold mixV
  rw [List.drop_eq_nil_of_le (by omega)]
  simp
theorem mixV_length (j k : Nat) (xs : List Value) (h : k * 4 ≤ xs.length) : (mixV j k xs).length = xs.length := by
  unfold mixV
  rw [List.length_append, marksV_length, List.length_drop]
  omega
theorem own_slice {w : World} {base size n : Nat} {e : TypeId} {v : Value} {xs : List Value} (h : w.ownsRow base e size v n xs) : ∃ A c, v = .slice A n c := by
  rcases h.2 with ⟨rfl, rfl⟩ | ⟨g, c, cur, rfl, _⟩
  · exact ⟨_, _, rfl⟩
  · exact ⟨_, _, rfl⟩
theorem set_get {E : List Ent} {f x : Ent} {i k : Nat} (h : (E.set i f)[k]? = some x) : (k = i ∧ x = f ∧ i < E.length) ∨ (k ≠ i ∧ E[k]? = some x) := by
  by_cases hk : k = i
  · left
    subst hk
    have hl : k < E.length := by
      rcases Nat.lt_or_ge k E.length with h1 | h1
      · exact h1
      · rw [List.getElem?_eq_none (by simp; omega)] at h; cases h
    rw [List.getElem?_set_self hl] at h
    injection h with h
    exact ⟨rfl, h.symm, hl⟩
  · right
    rw [List.getElem?_set_ne (fun e => hk e.symm)] at h
    exact ⟨hk, h⟩
section
variable {w w' : World} {base kb : Nat} {bv : Value} {E : List Ent}
theorem BW.below (h : BW w base kb bv E) (hb : Below w.heap.size w w') : BW w' base kb bv E :=
  ⟨h.bk.belowW hb, h.hb, own_below h.row hb, fun i e he => ⟨own_below (h.lst i e he).1 hb, own_below (h.lst i e he).2 hb⟩, h.ap⟩
theorem BW.drew (h : BW w base kb bv E) : BW w.drew base kb bv E := h.below (Below.refl _ _).drew
theorem BW.alloc (h : BW w base kb bv E) (o : Obj) : BW (w.alloc o) base kb bv E := h.below ((Below.refl _ _).alloc (Nat.le_refl _) o)
theorem BW.store (h : BW w base kb bv E) {i : Nat} {e : Ent} {g m c : Nat} (he : E[i]? = some e) (hv : e.v = .slice (some ⟨g, 0, none⟩) m c) (hl : e.long.ownBlock ≠ some g) (j : Nat) (u : Value) :
    BW (w.setCell ⟨g, j, none⟩ u) base kb bv (E.set i { e with xs := e.xs.set j u }) := by
  have hgr : w.grownBy (w.setCell ⟨g, j, none⟩ u) (some g) := only_set (World.grownBy.refl w (some g)) (.inl rfl) u
  have hown := (h.lst i e he).1
  have hg : e.v.ownBlock = some g := by rw [hv]; rfl
  have hkb : kb ≠ g := fun e2 => own_blk_ne hown h.bk (by decide) (by rw [e2]; exact hg)
  refine ⟨?_, h.hb, ?_, ?_, ?_⟩
  · rw [List.length_set]; exact h.bk.grown hgr (by simp; exact hkb)
  · rw [List.length_set, rowsV_same E 1 i e { e with xs := e.xs.set j u } he rfl rfl]
    exact own_keep h.row hgr (fun e2 => own_ne h.row hown (by decide) g e2 hg)
  · intro k x hx
    rcases set_get hx with ⟨rfl, rfl, _⟩ | ⟨hk, hx⟩
    · refine ⟨?_, own_keep (h.lst k e he).2 hgr hl⟩
      have h2 := hown
      have hn : m = e.n := by
        rcases h2.2 with ⟨h3, _⟩ | ⟨g', c', cur, h3, _⟩
        · rw [hv] at h3; cases h3
        · rw [hv] at h3; injection h3
      subst hn
      simp only [hv] at h2 ⊢
      exact (h2.stored j u).1
    · have hne : ∀ y : Value, (y = x.v ∨ y = x.long) → y.ownBlock ≠ some g := by
        intro y hy hyg
        apply hk
        refine h.ap k i x e g hx he ?_ (.inl hg)
        rcases hy with rfl | rfl
        · exact .inl hyg
        · exact .inr hyg
      exact ⟨own_keep (h.lst k x hx).1 hgr (hne _ (.inl rfl)), own_keep (h.lst k x hx).2 hgr (hne _ (.inr rfl))⟩
  · intro a b x y k hx hy hxk hyk
    have old : ∀ (a : Nat) (x : Ent), (E.set i { e with xs := e.xs.set j u })[a]? = some x → x.has k → ∃ x', E[a]? = some x' ∧ x'.has k := by
      intro a x hx hxk
      rcases set_get hx with ⟨rfl, rfl, _⟩ | ⟨_, hx⟩
      · exact ⟨e, he, hxk⟩
      · exact ⟨x, hx, hxk⟩
    obtain ⟨x', hx', k1⟩ := old a x hx hxk
    obtain ⟨y', hy', k2⟩ := old b y hy hyk
    exact h.ap a b x' y' k hx' hy' k1 k2
end
theorem BW.mark {w : World} {base kb i g m c j k : Nat} {bv long : Value} {E : List Ent} {ln : Nat} {ys lxs : List Value} (h : BW w base kb bv (E.set i ⟨.slice (some ⟨g, 0, none⟩) m c, m, ys, long, ln, lxs⟩)) (hi : i < E.length) (hl : long.ownBlock ≠ some g) :
    BW ((((w.setCell ⟨g, k * 4, none⟩ (.int .u8 0)).setCell ⟨g, k * 4 + 1, none⟩ (.string (markT j))).setCell ⟨g, k * 4 + 2, none⟩ (.int .i64 0)).setCell ⟨g, k * 4 + 3, none⟩ (.int .i64 0)) base kb bv
      (E.set i ⟨.slice (some ⟨g, 0, none⟩) m c, m, (((ys.set (k * 4) (.int .u8 0)).set (k * 4 + 1) (.string (markT j))).set (k * 4 + 2) (.int .i64 0)).set (k * 4 + 3) (.int .i64 0), long, ln, lxs⟩) := by
  have at_ : ∀ x : Ent, (E.set i x)[i]? = some x := fun x => List.getElem?_set_self hi
  have b0 := h.store (at_ _) rfl hl (k * 4) (.int .u8 0)
  rw [List.set_set] at b0
  have b1 := b0.store (at_ _) rfl hl (k * 4 + 1) (.string (markT j))
  rw [List.set_set] at b1
  have b2 := b1.store (at_ _) rfl hl (k * 4 + 2) (.int .i64 0)
  rw [List.set_set] at b2
  have b3 := b2.store (at_ _) rfl hl (k * 4 + 3) (.int .i64 0)
  rw [List.set_set] at b3
  exact b3
/-- so many lists are filled -/
structure Filled (i : Nat) (E E' : List Ent) : Prop where
  len : E'.length = E.length
  at_ : ∀ (j : Nat) (e : Ent), E[j]? = some e → ∃ f : Ent, E'[j]? = some f ∧ f.v = e.v ∧ f.n = e.n ∧ f.long = e.long ∧ f.ln = e.ln ∧ f.lxs = e.lxs ∧ f.xs = if j < i then marksV (j + 1) e.n else e.xs
set_option maxHeartbeats 4000000 in
set_option maxRecDepth 100000 in
theorem fillWord_calls (base kb : Nat) (bv : Value) (E : List Ent) (w : World) (hB : BW w base kb bv E) (hm : E.length < 50) (h7 : base ≤ w.heap.size) (hnil : ∀ (i : Nat) (e : Ent), E[i]? = some e → e.long = .slice none 0 0) :
    Calls Tryz.prog 29 #[.pointer (some ⟨kb, 0, none⟩)] w (fun e w' => e = .returned (.tuple #[]) ∧ Below base w w' ∧ ∃ E', BW w' base kb bv E' ∧ Filled E.length E E') := by
  have HB := Lib.hid hB
  have HNIL := Lib.hid hnil
  clear hB hnil
  go_enter Tryz.func29, Tryz.ntmps29
  go_wp2_with fail
  go_loopw [2] (fun v wr => ∃ i E', v = .int .i64 ((i : Nat) : Int) ∧ i ≤ E.length ∧ BW wr base kb bv E' ∧ Filled i E E' ∧ Below base w wr) (fun v wr => E.length - (RowKit.intOf v).toNat)
  case atStart => exact ⟨0, E, rfl, by omega, HB.out, ⟨rfl, fun j e he => ⟨e, he, rfl, rfl, rfl, rfl, rfl, by simp⟩⟩, Below.refl _ _⟩
  case round =>
    obtain ⟨w1, hw1⟩ : ∃ x : World, x = wr := ⟨_, rfl⟩
    subst hw1
    obtain ⟨i, E', rfl, hi, hb, hf, hbel⟩ := hrel
    have h15 := hb.bk.cell 15
    simp [bookC] at h15
    by_cases hlt : i < E.length
    · obtain ⟨e, he⟩ : ∃ e, E'[i]? = some e := ⟨_, List.getElem?_eq_getElem (by rw [hf.len]; exact hlt)⟩
      have hrow := hb.row
      obtain ⟨gb, cb, rfl, _, _⟩ := hrow.form (by rw [hf.len]; omega)
      have hg := rowsV_get E' 1 i e he
      have c0 := hrow.cellAt (i * 3) (by rw [hf.len]; omega)
      have c1 := hrow.cellAt (i * 3 + 1) (by rw [hf.len]; omega)
      have c2 := hrow.cellAt (i * 3 + 2) (by rw [hf.len]; omega)
      rw [hg.1] at c0
      rw [hg.2.1] at c1
      rw [hg.2.2] at c2
      have hlen := hf.len
      rw [hlen] at h15
      have HBW := Lib.hid hb
      have HF := Lib.hid hf
      have HBL := Lib.hid hbel
      have HR := Lib.hid hrow
      clear hb hf hbel hrow hg
      have hown := (HBW.out.lst i e he)
      obtain ⟨v, n, xs, long, ln, lxs⟩ := e
      obtain ⟨A, c, hv⟩ := own_slice hown.1
      obtain ⟨A2, c2', hv2⟩ := own_slice hown.2
      simp only at hv hv2 hown c0 c1
      have hlnil : long = .slice none 0 0 := by
        have h1 : i < E.length := hlt
        obtain ⟨f, k1, k2⟩ := HF.out.at_ i (E[i]) (List.getElem?_eq_getElem h1)
        rw [he] at k1
        injection k1 with k1
        subst k1
        exact k2.2.2.1.trans (HNIL.out i _ (List.getElem?_eq_getElem h1))
      subst hlnil
      clear hv2
      subst hv
      have hxl : xs.length = n * 4 := hown.1.1
      have hnm : n ≤ 9223372036854775807 := by
        rcases hown.1.2 with ⟨_, h⟩ | ⟨g, cap, cur, _, _, _, h1, h2, _⟩
        · omega
        · unfold maxLen at h2; omega
      have HOWN := Lib.hid hown
      clear hown
      have hbs : base ≤ w1.heap.size := by have := HBL.out.size; omega
      have hset : E'.set i ⟨.slice A n c, n, xs, .slice none 0 0, ln, lxs⟩ = E' := by
        apply List.ext_getElem?
        intro k
        by_cases hk : i = k
        · subst hk
          rw [List.getElem?_set_self (by omega), he]
        · rw [List.getElem?_set_ne hk]
      have HSET := Lib.hid hset
      clear hset
      go_wp2_with fail
      go_loopw [4] (fun v wq => ∃ k, v = .int .i64 ((k : Nat) : Int) ∧ k ≤ n ∧ BW wq base kb (.slice (some ⟨gb, 0, none⟩) E'.length cb) (E'.set i ⟨.slice A n c, n, mixV (1 + i) k xs, .slice none 0 0, ln, lxs⟩) ∧ Below base w wq ∧ Blk wq w1.heap.size 77 #[.slice A n c, .slice none 0 0, .int .i64 (1 + (i : Int))]) (fun v wq => n - (RowKit.intOf v).toNat)
      case atStart => 
        refine ⟨0, rfl, by omega, ?_, HBL.out.alloc hbs _, Blk.new _ _ _⟩
        rw [mixV_zero, HSET.out]
        exact HBW.out.alloc _
      case round =>
        obtain ⟨k, rfl, hk, hbq, hblq, hblk⟩ := hrel
        have d0 := hblk.cell 0
        have d2 := hblk.cell 2
        simp at d0 d2
        have HBQ := Lib.hid hbq
        have HBLQ := Lib.hid hblq
        have HBLK := Lib.hid hblk
        clear hbq hblq hblk
        by_cases hkn : k < n
        · have hei : (E'.set i ⟨.slice A n c, n, mixV (1 + i) k xs, .slice none 0 0, ln, lxs⟩)[i]? = some ⟨.slice A n c, n, mixV (1 + i) k xs, .slice none 0 0, ln, lxs⟩ := List.getElem?_set_self (by rw [hlen]; exact hlt)
          have hoq := (HBQ.out.lst i _ hei).1
          obtain ⟨g, cg, hag, hbg, hgl⟩ := hoq.form (by show 0 < n; omega)
          simp only at hag
          injection hag with hag _ hcg
          subst hag hcg
          have hml : (mixV (1 + i) k xs).length = n * 4 := by rw [mixV_length _ _ _ (by omega)]; exact hxl
          obtain ⟨y0, hy0⟩ : ∃ y, (mixV (1 + i) k xs)[k * 4]? = some y := ⟨_, List.getElem?_eq_getElem (by rw [hml]; omega)⟩
          obtain ⟨y1, hy1⟩ : ∃ y, (mixV (1 + i) k xs)[k * 4 + 1]? = some y := ⟨_, List.getElem?_eq_getElem (by rw [hml]; omega)⟩
          obtain ⟨y2, hy2⟩ : ∃ y, (mixV (1 + i) k xs)[k * 4 + 2]? = some y := ⟨_, List.getElem?_eq_getElem (by rw [hml]; omega)⟩
          obtain ⟨y3, hy3⟩ : ∃ y, (mixV (1 + i) k xs)[k * 4 + 3]? = some y := ⟨_, List.getElem?_eq_getElem (by rw [hml]; omega)⟩
          have hgne : g ≠ w1.heap.size := fun e2 => own_blk_ne hoq HBLK.out (by decide) (by rw [← e2]; rfl)
          have hgne2 : w1.heap.size ≠ g := fun e2 => hgne e2.symm
          have HEI := Lib.hid hei
          have HY0 := Lib.hid hy0
          have HY1 := Lib.hid hy1
          have HY2 := Lib.hid hy2
          have HY3 := Lib.hid hy3
          clear hei hoq hy0 hy1 hy2 hy3 hml
          go_wp2_with fail
          go_region_held3 (fun W => W.cell? ⟨w1.heap.size, 0, none⟩ = some (.slice (some ⟨g, 0, none⟩) n c) ∧ W.cell? ⟨w1.heap.size, 2, none⟩ = some (.int .i64 (1 + (i : Int)))) (first | with_reducible exact ⟨d0, d2⟩ | with_reducible exact ⟨q0, q2⟩ | with_reducible assumption | go_keep) (first | (go_at_call 89; refine (markWord_calls (1 + i) (by omega) _).mono ?_; rintro e w4 ⟨rfl, hb4⟩; have hk4 := HBLK.out.drew.belowW hb4; have q0 := hk4.cell 0; have q2 := hk4.cell 2; simp at q0 q2; have hq4 := HBQ.out.drew.below hb4; have ho4 := (hq4.lst i _ HEI.out).1; have s0 := (ho4.cellAt (k * 4) (by show _ < n * 4; omega)).trans HY0.out; have s1 := (ho4.cellAt (k * 4 + 1) (by show _ < n * 4; omega)).trans HY1.out; have s2 := (ho4.cellAt (k * 4 + 2) (by show _ < n * 4; omega)).trans HY2.out; have s3 := (ho4.cellAt (k * 4 + 3) (by show _ < n * 4; omega)).trans HY3.out; have t0 := ho4.frozenAt (k * 4); have t1 := ho4.frozenAt (k * 4 + 1); have t2 := ho4.frozenAt (k * 4 + 2); have t3 := ho4.frozenAt (k * 4 + 3); have HK4 := Lib.hid hk4; have HQ4 := Lib.hid hq4; have HB4 := Lib.hid hb4; clear hk4 hq4 ho4 hb4))
          have hbm := HQ4.out.mark (k := k) (j := 1 + i) (by rw [hlen]; exact hlt) (by simp [Value.ownBlock])
          rw [mixV_step (1 + i) k xs (by omega)] at hbm
          have HBM := Lib.hid hbm
          have hbe : Below base w ((((w4.setCell ⟨g, k * 4, none⟩ (.int .u8 0)).setCell ⟨g, k * 4 + 1, none⟩ (.string (markT (1 + i)))).setCell ⟨g, k * 4 + 2, none⟩ (.int .i64 0)).setCell ⟨g, k * 4 + 3, none⟩ (.int .i64 0)) :=
            ((((HBLQ.out.drew.trans ((HB4.out).mono (by have := HBLQ.out.size; simp; omega))).setCell (p := ⟨g, k * 4, none⟩) hbg _).setCell (p := ⟨g, k * 4 + 1, none⟩) hbg _).setCell (p := ⟨g, k * 4 + 2, none⟩) hbg _).setCell (p := ⟨g, k * 4 + 3, none⟩) hbg _
          have hbk := ((((HK4.out.far (p := ⟨g, k * 4, none⟩) hgne2 (.int .u8 0)).far (p := ⟨g, k * 4 + 1, none⟩) hgne2 (.string (markT (1 + i)))).far (p := ⟨g, k * 4 + 2, none⟩) hgne2 (.int .i64 0)).far (p := ⟨g, k * 4 + 3, none⟩) hgne2 (.int .i64 0))
          have HBE := Lib.hid hbe
          have HBK := Lib.hid hbk
          clear hbm hbe hbk
          go_wp2
          go_roundw
          case rel =>
            exact ⟨k + 1, by simp, by omega, HBM.out, HBE.out, HBK.out⟩
          case measure => simp [RowKit.intOf]; omega
        · have hkn2 : k = n := by omega
          subst hkn2
          go_wp2_with fail
          go_roundw
          case rel =>
            refine ⟨i + 1, _, by simp, by omega, HBQ.out, ?_, HBLQ.out⟩
            refine ⟨by rw [List.length_set]; exact hlen, ?_⟩
            intro j x hx
            by_cases hj : j = i
            · subst hj
              refine ⟨_, List.getElem?_set_self (by rw [hlen]; exact hlt), ?_⟩
              obtain ⟨f, k1, k2⟩ := HF.out.at_ j x hx
              rw [he] at k1
              injection k1 with k1
              subst k1
              refine ⟨k2.1, k2.2.1, k2.2.2.1, k2.2.2.2.1, k2.2.2.2.2.1, ?_⟩
              rw [if_pos (by omega)]
              show mixV (1 + j) k xs = _
              rw [mixV_all _ _ _ hxl, Nat.add_comm 1 j]
              congr 1
              exact k2.2.1
            · obtain ⟨f, k1, k2⟩ := HF.out.at_ j x hx
              refine ⟨f, by rw [List.getElem?_set_ne (fun e => hj e.symm)]; exact k1, k2.1, k2.2.1, k2.2.2.1, k2.2.2.2.1, k2.2.2.2.2.1, ?_⟩
              rw [k2.2.2.2.2.2]
              by_cases h1 : j < i
              · rw [if_pos h1, if_pos (by omega)]
              · rw [if_neg h1, if_neg (by omega)]
          case measure => simp [RowKit.intOf]; omega
    · have : i = E.length := by omega
      subst this
      have hlen := hf.len
      obtain ⟨A, c, hbv⟩ := own_slice hb.row
      subst hbv
      rw [hlen] at h15
      have HBW := Lib.hid hb
      have HF := Lib.hid hf
      have HBL := Lib.hid hbel
      clear hb hf hbel
      go_wp2_with fail
      refine bodyPost_end (results_none rfl _ _ _) rfl ?_
      exact ⟨rfl, HBL.out, _, HBW.out, HF.out⟩
end Go.Proofs.YtlneonmbhgppeaaGreatDoor
