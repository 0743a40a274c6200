/- A Book keeps a list of words. Condition: it holds below 50. -/
import Derived.Test.YtlneonmbhgppeaaGreatDoorBc
import Derived.Deep.RegionLaw
import Derived.Deep.RegionWith
namespace Go.Proofs.YtlneonmbhgppeaaGreatDoor
open Go.RowKit
set_option linter.unusedVariables false
theorem info_held : (Tryz.prog.info? 77).map (fun i => (i.zero, i.size, i.bytes)) = some (some (.agg #[.slice none 0 0, .slice none 0 0, .int .i64 0]), 3, 56) := by kernel_rfl
theorem snoc_get {E : List Ent} {x e : Ent} {i : Nat} (h : (E ++ [x])[i]? = some e) : (E[i]? = some e ∧ i < E.length) ∨ (i = E.length ∧ e = x) := by
  rcases Nat.lt_trichotomy i E.length with hi | hi | hi
  · left
    rw [List.getElem?_append_left hi] at h
    exact ⟨h, hi⟩
  · right
    subst hi
    simp at h
    exact ⟨rfl, h.symm⟩
  · rw [List.getElem?_eq_none (by simp; omega)] at h
    cases h
set_option maxHeartbeats 4000000 in
set_option maxRecDepth 100000 in
theorem keepWord_calls (base kb : Nat) (bv : Value) (A : Option Addr) (k c : Nat) (E : List Ent) (n : Nat) (xs : List Value) (w : World) (hB : BW w base kb bv E) (hm : E.length < 50) (hl : w.ownsRow base 51 4 (.slice A k c) n xs)
    (hap : ∀ (i : Nat) (e : Ent) (g : Nat), E[i]? = some e → e.has g → (Value.slice A k c).ownBlock ≠ some g) (h7 : base ≤ w.heap.size) :
    Calls Tryz.prog 14 #[.pointer (some ⟨kb, 0, none⟩), .slice A k c] w (fun e w' => e = .returned (.tuple #[]) ∧ Below kb w w' ∧ ∃ bv', BW w' base kb bv' (E ++ [⟨.slice A k c, n, xs, .slice none 0 0, 0, []⟩])) := by
  have h0 := hB.bk.cell 0
  have h15 := hB.bk.cell 15
  have f0 := hB.bk.frozen 0
  have f15 := hB.bk.frozen 15
  have hlt := hB.bk.lt
  simp [bookC] at h0 h15
  have HB := Lib.hid hB
  have HL := Lib.hid hl
  have HAP := Lib.hid hap
  clear hB hl hap
  have hkb : kb ≤ w.heap.size := Nat.le_of_lt hlt
  have HR := Lib.hid (HB.out.row)
  have hne : bv.ownBlock ≠ some kb := own_blk_ne HB.out.row HB.out.bk (by decide)
  have HNE := Lib.hid hne
  clear hne
  have hbbase := HB.out.hb
  go_enter Tryz.func14, Tryz.ntmps14
  go_wp2_with fail
  have HR2 := Lib.hid (own_keep (g := kb) (w' := w.setCell ⟨kb, 0, none⟩ (.int .i64 ((E.length : Int) + 1))) HR.out (only_set (World.grownBy.refl w _) (.inl rfl) _) HNE.out)
  have HK := Lib.hid (HB.out.bk.set_ 0 (.int .i64 ((E.length : Int) + 1)))
  have hq := heap_alloc_new (w.setCell ⟨kb, 0, none⟩ (.int .i64 ((E.length : Int) + 1))) (.cells #[.slice A k c, .slice none 0 0, .int .i64 ((E.length : Int) + 1)] 77)
  have hsz : (w.setCell ⟨kb, 0, none⟩ (.int .i64 ((E.length : Int) + 1))).heap.size = w.heap.size := by simp [World.setCell]
  rw [hsz] at hq
  have HQ := Lib.hid hq
  have HSZ := Lib.hid hsz
  clear hq hsz
  go_region_law ((refine step_append_split _ (by rfl) (.tmp 15) (.tmp 22) 43 (by rfl) kb 77 _ _ 3 56 Tryz.underlying43 (Classical.choose_spec (info_of info_held)).1 (Classical.choose_spec (info_of info_held)).2.1 (Classical.choose_spec (info_of info_held)).2.2.1 (Classical.choose_spec (info_of info_held)).2.2.2 rfl (by omega) bv E.length (rowsV 1 E) (by rfl) (by exact (HR2.out.alloc _)) ⟨w.heap.size, 0, none⟩ 1 1 [.slice A k c, .slice none 0 0, .int .i64 ((E.length : Int) + 1)] (by rfl) (by rfl) (by exact World.news_of_block (cs := #[.slice A k c, .slice none 0 0, .int .i64 ((E.length : Int) + 1)]) (t := 77) (fr := (0, 0)) HQ.out) (by simp [Value.oneCell']) (by omega) (by unfold maxLen; omega) (by omega) (by simp; omega) ?_; intro g4 cap4 w4 hown4 hgrow4; have hk4 := hgrow4.blk (HK.out.drew.alloc _) HNE.out; have q15 := hk4.cell 15; have p15 := hk4.frozen 15; simp [bookC] at q15; have HK4 := Lib.hid hk4; have HO4 := Lib.hid hown4; have HG4 := Lib.hid hgrow4; clear hk4 hown4 hgrow4))
  all_goals
    go_wp2
    refine bodyPost_end (results_none rfl _ _ _) rfl ?_
    have hb1 : Below kb w (w.setCell ⟨kb, 0, none⟩ (.int .i64 ((E.length : Int) + 1))) := (Below.refl kb w).setCell (p := ⟨kb, 0, none⟩) (Nat.le_refl _) _
    have hb2 := HG4.out.below (base := kb) (a := w) (by exact (hb1.alloc (by rw [HSZ.out]; exact hkb) _).drew) (by exact HR2.out.alloc _) (by simp; have := HSZ.out; omega)
    have hne4 : (Value.slice (some ⟨g4, 0, none⟩) (E.length + 1) cap4).ownBlock ≠ some kb := own_blk_ne HO4.out HK4.out (by decide)
    have hb3 : Below kb w4 (w4.setCell ⟨kb, 15, none⟩ (.slice (some ⟨g4, 0, none⟩) (E.length + 1) cap4)) := (Below.refl kb w4).setCell (p := ⟨kb, 15, none⟩) (Nat.le_refl _) _
    have hk5 := only_set (World.grownBy.refl w4 (some kb)) (p := ⟨kb, 15, none⟩) (.inl rfl) (.slice (some ⟨g4, 0, none⟩) (E.length + 1) cap4)
    have old : ∀ u m ys, w.ownsRow base 51 4 u m ys → (w4.setCell ⟨kb, 15, none⟩ (.slice (some ⟨g4, 0, none⟩) (E.length + 1) cap4)).ownsRow base 51 4 u m ys := by
      intro u m ys hu
      have hu1 : u.ownBlock ≠ some kb := own_blk_ne hu HB.out.bk (by decide)
      have hu2 := own_keep (g := kb) hu (only_set (World.grownBy.refl w _) (p := ⟨kb, 0, none⟩) (.inl rfl) (.int .i64 ((E.length : Int) + 1))) hu1
      have hu3 := HG4.out.own (u := u) (xs := ys) (by exact (hu2.alloc _)) (fun g hg => own_ne hu HR.out (by decide) g hg)
      exact own_keep (g := kb) hu3 hk5 hu1
    refine ⟨rfl, hb2.trans hb3, .slice (some ⟨g4, 0, none⟩) (E.length + 1) cap4, ?_, hbbase, ?_, ?_, ?_⟩
    · have := HK4.out.set_ 15 (.slice (some ⟨g4, 0, none⟩) (E.length + 1) cap4)
      simpa [bookC] using this
    · have := own_keep (g := kb) HO4.out hk5 hne4
      rw [rowsV_snoc]
      simpa [Int.add_comm, Nat.add_comm] using this
    · intro i e he
      rcases snoc_get he with ⟨he, _⟩ | ⟨_, rfl⟩
      · have := HB.out.lst i e he
        exact ⟨old _ _ _ this.1, old _ _ _ this.2⟩
      · exact ⟨old _ _ _ HL.out, World.ownsRow_nil _ _ _ _⟩
    · intro i j e f g hi hj he hf
      rcases snoc_get hi with ⟨hi, _⟩ | ⟨rfl, rfl⟩
      · rcases snoc_get hj with ⟨hj, _⟩ | ⟨rfl, rfl⟩
        · exact HB.out.ap i j e f g hi hj he hf
        · exfalso
          rcases hf with hf | hf
          · exact HAP.out i e g hi he hf
          · simp [Value.ownBlock] at hf
      · rcases snoc_get hj with ⟨hj, _⟩ | ⟨rfl, rfl⟩
        · exfalso
          rcases he with he | he
          · exact HAP.out j f g hj hf he
          · simp [Value.ownBlock] at he
        · rfl
end Go.Proofs.YtlneonmbhgppeaaGreatDoor
