/- The row WordsOf: what the laid variables give the walk; the lifted law; the card. UNDER WAY: does not build yet. -/
import Derived.Test.YtlneonmbhgppeaaGreatDoorRu
import Derived.Test.YtlneonmbhgppeaaGreatDoorRows
import Derived.Test.YtlneonmbhgppeaaGreatDoorTie
import Derived.Test.YtlneonmbhgppeaaGreatDoorCards
import Derived.ProofKit
import Derived.LaidMore
import Derived.OpenShut
import Derived.Stop.Joined
import Derived.Deep.Strs
import Derived.ShutString
import Derived.ChangeOld
import Derived.Below
import Derived.SizedLaws
namespace Go.Proofs.YtlneonmbhgppeaaGreatDoor
open Go.ChangeShapes Go.WideShapes Go.ChangeAt Go.WideMaps Go.WideElems Go.RowKit
theorem row_own : ownKnob Tryz.prog.godebug = none := by kernel_rfl
theorem gRanges : Tryz.prog.globalNamed "cartouche/words.ranges" = some 0 := by kernel_rfl
section
variable {H : Type} {enc : TypeId × Value → H} {w : World} {base : Nat} {sp : Nat → Bool} {held : Bool} {m : Nat} {q : List MemPlace}
/-- one range's cells -/
theorem one_range {cs : List Value} {a b c : Int} (h : DataW.trod enc Tryz.prog w base sp held m 171 cs = some (.agg [.lit (.int .i32 a), .lit (.int .i32 b), .lit (.int .u8 c)], q)) : cs = [.int .i32 a, .int .i32 b, .int .u8 c] := by
  obtain ⟨y0, y1, y2, n, hx, hl, h0, h1, h2⟩ := Go.Deep.trod_struct3 Tryz.underlying171 h
  have c171 : Tryz.prog.cellsOf 171 = 3 := by kernel_rfl
  have c21 : Tryz.prog.cellsOf 21 = 1 := by kernel_rfl
  have c59 : Tryz.prog.cellsOf 59 = 1 := by kernel_rfl
  rw [c171] at hl
  simp only [c21, c59] at h0 h1 h2
  obtain ⟨x0, k0, e0, _⟩ := DataW.trod_int Tryz.underlying21 h0
  obtain ⟨x1, k1, e1, _⟩ := DataW.trod_int Tryz.underlying21 h1
  obtain ⟨x2, k2, e2, _⟩ := DataW.trod_int Tryz.underlying59 h2
  subst e0 e1 e2
  match cs, hl with
  | [p0, p1, p2], _ =>
    simp at k0 k1 k2 hx
    simp [k0, k1, k2, hx]
theorem ranges_cells {cs : List Value} {fuel : Nat} (h : DataW.trod enc Tryz.prog w base sp held fuel 172 cs = some (Rows.laid_cartouche_words_ranges, q)) : cs.toArray = rangesCells := by
  obtain ⟨xs, m, _, hx, hl, hn, hel⟩ := DataW.trod_array Tryz.underlying172 h
  have c171 : Tryz.prog.cellsOf 171 = 3 := by kernel_rfl
  have c172 : Tryz.prog.cellsOf 172 = 18 := by kernel_rfl
  rw [c171] at hel
  rw [c172] at hl
  unfold Rows.laid_cartouche_words_ranges at hx
  match xs, hn with
  | [y0, y1, y2, y3, y4, y5], _ =>
    simp at hx
    obtain ⟨⟨h0, h1, h2, h3, h4, h5⟩, _⟩ := hx
    have pk : ∀ (i : Nat) (y : DataW H × List MemPlace) (a b c : Int), i < 6 → [y0, y1, y2, y3, y4, y5][i]? = some y → .agg [.lit (.int .i32 a), .lit (.int .i32 b), .lit (.int .u8 c)] = y.1 → List.take 3 (List.drop (i * 3) cs) = [.int .i32 a, .int .i32 b, .int .u8 c] := by
      intro i y a b c hi hy hd
      refine one_range (enc := enc) (w := w) (base := base) (sp := sp) (held := held) (m := m) (q := y.2) ?_
      rw [hel i hi, hy, hd]
    have r0 := pk 0 y0 _ _ _ (by omega) rfl h0
    have r1 := pk 1 y1 _ _ _ (by omega) rfl h1
    have r2 := pk 2 y2 _ _ _ (by omega) rfl h2
    have r3 := pk 3 y3 _ _ _ (by omega) rfl h3
    have r4 := pk 4 y4 _ _ _ (by omega) rfl h4
    have r5 := pk 5 y5 _ _ _ (by omega) rfl h5
    match cs, hl with
    | [p0, p1, p2, p3, p4, p5, p6, p7, p8, p9, p10, p11, p12, p13, p14, p15, p16, p17], _ =>
      simp at r0 r1 r2 r3 r4 r5
      simp [rangesCells, r0, r1, r2, r3, r4, r5]
end
/-- What the laid variables give the walks. -/
theorem glob_of_laid {W : World} (h : laidMetH Tryz.prog Rows.wordsOfRow.laid W) : Glob W := by
  rw [MakeChecks.laidMetH_plain _ _ _ (by kernel_rfl)] at h
  have hp := h
  obtain ⟨ps, hv, hnd, hbl⟩ := h
  obtain ⟨g0, t0, cs0, f0, p0, q0, hg0, ht0, hv0, hd0, ⟨g1, t1, cs1, f1, p1, q1, hg1, ht1, hv1, hd1, ⟨g2, t2, cs2, f2, p2, q2, hg2, ht2, hv2, hd2, ⟨g3, t3, cs3, f3, p3, q3, hg3, ht3, hv3, hd3, ⟨g4, t4, cs4, f4, p4, q4, hg4, ht4, hv4, hd4, ⟨g5, t5, cs5, f5, p5, q5, hg5, ht5, hv5, hd5, _, _⟩, _⟩, _⟩, _⟩, _⟩, _⟩ := hv
  have tR : (Tryz.prog.globals[0]?).map (·.type) = some 172 := by kernel_rfl
  obtain rfl := Option.some.inj (gRanges.symm.trans hg5)
  obtain rfl := Option.some.inj (tR.symm.trans ht5)
  have hc := ranges_cells hd5
  simp at hc
  refine ⟨?_, ?_, ?_, ?_⟩
  · have hv := hv5
    simp only [World.var?, gRanges, Option.bind_some] at hv
    split at hv
    · rename_i c t fr he
      simp at hv
      subst hv
      subst hc
      exact ⟨_, _, he⟩
    · cases hv
  · have tE : (Tryz.prog.globals[3]?).map (·.type) = some 67 := by kernel_rfl
    have gE : Tryz.prog.globalNamed "strconv.ErrRange" = some 3 := by kernel_rfl
    obtain rfl := Option.some.inj (gE.symm.trans hg3)
    obtain rfl := Option.some.inj (tE.symm.trans ht3)
    obtain ⟨_, u, v, hcs, _⟩ := iface_of_trod Tryz.underlying67 hd3
    have : cs3 = #[.iface u v] := Array.eq_one_of_toList hcs
    exact ⟨u, v, by rw [hv3, this]⟩
  · have tE : (Tryz.prog.globals[2]?).map (·.type) = some 67 := by kernel_rfl
    have gE : Tryz.prog.globalNamed "strconv.ErrSyntax" = some 2 := by kernel_rfl
    obtain rfl := Option.some.inj (gE.symm.trans hg4)
    obtain rfl := Option.some.inj (tE.symm.trans ht4)
    obtain ⟨_, u, v, hcs, _⟩ := iface_of_trod Tryz.underlying67 hd4
    have : cs4 = #[.iface u v] := Array.eq_one_of_toList hcs
    exact ⟨u, v, by rw [hv4, this]⟩
  · have tE : (Tryz.prog.globals[4]?).map (·.type) = some 192 := by kernel_rfl
    have gE : Tryz.prog.globalNamed "internal/strconv.uint64pow10" = some 4 := by kernel_rfl
    obtain rfl := Option.some.inj (gE.symm.trans hg2)
    obtain rfl := Option.some.inj (tE.symm.trans ht2)
    have hd := Lib.cells_of_tab (k := .u64) (zs := Lib.pow10Tab) Tryz.underlying192 Tryz.underlying65 (by kernel_rfl) (by kernel_rfl) hd2
    unfold Lib.TabIs
    rw [hv2, ← hd]

theorem door_met (os : Os) (args : Array Value) : laidMetH Tryz.prog Rows.wordsOfRow.laid ((World.doorLaid Tryz.prog 400 os).forCall (fun _ _ => 0) ⟨#[], args, []⟩).memory :=
  laidMetH_of_parts3 (fuel := 8) (laidMet_of_run' 8 (by kernel_rfl) (by kernel_rfl)) (by kernel_rfl) (by kernel_rfl)
theorem size_of_laid {W : World} (h : laidMetH Tryz.prog Rows.wordsOfRow.laid W) : 7 ≤ W.heap.size := by
  rw [MakeChecks.laidMetH_plain _ _ _ (by kernel_rfl)] at h
  obtain ⟨ps, ⟨g0, t0, cs0, f0, p0, q0, hg0, ht0, hv0, hd0, ⟨g1, t1, cs1, f1, p1, q1, hg1, ht1, hv1, _⟩, _⟩, _⟩ := h
  have gE : Tryz.prog.globalNamed "math/bits.deBruijn64tab" = some 6 := by kernel_rfl
  have := glob_lt hv1 6 gE
  omega
set_option maxRecDepth 100000 in
theorem row_lifted (os : Os) (started : os.Started) (H : Type) (enc : TypeId × Value → H) :
    ReturnsInHanded {} Tryz.checked os 3 .any (fun w args => (Rows.wordsOfSpec.pre enc Tryz.prog Tryz.f3 [] false w args ∧ laidMetH Tryz.prog Rows.wordsOfRow.laid w) ∧ sizedMet enc Tryz.prog Tryz.f3 (OpenSpec.ofChange Rows.wordsOfSpec) false w args)
      (Rows.wordsOfSpec.post enc Tryz.prog Tryz.f3 false true false false) := by
  refine returnsInHanded_of_change_and (C := Tryz.checked) (X := fun w _ => laidMetH Tryz.prog Rows.wordsOfRow.laid w) (fun _ _ _ hh h => h.of_heap hh) row_own started (by kernel_rfl) Tryz.func3
    (ChangeSpec.witness_shaped (enc := enc) (C := Tryz.checked) (os := os) (X := fun w _ => laidMetH Tryz.prog Rows.wordsOfRow.laid w) false (World.doorLaid Tryz.prog 400 os) #[.string ByteArray.empty] 8 rfl (World.shaped_of_RefB (by kernel_rfl) (by kernel_rfl)) (by kernel_rfl) (by kernel_rfl) (by kernel_rfl) (door_met os _)) ?_
  intro W base args ds gs before hval0 hW hcnd hsz0 hL _
  have hsz : (DataW.weightsEach Tryz.prog (Tryz.f3.params.toList ++ Rows.wordsOfSpec.plain.varTypes Tryz.prog) (ds ++ gs)).all (· ≤ reachBytes) = true := hsz0
  have hval : ∀ (j : Nat) t v, Tryz.f3.params[j]? = some t → args[j]? = some v → Value.okWide Tryz.prog W .any base t v := hval0
  have hW' := hW
  obtain ⟨p, q, hA0, hV, rfl, hfz, hnd⟩ := hW
  have hA : DataW.TrodAll enc Tryz.prog W 0 (fun _ => true) true Tryz.f3.params.toList args.toList ds p := hA0
  rw [Tryz.params3] at hA hval hsz
  obtain ⟨v0, vs0, d0, ds0, p0, q0, hargs, rfl, rfl, h0, r0⟩ := trodAll_cons hA
  obtain ⟨rfl, rfl, rfl⟩ := trodAll_nil r0
  obtain rfl : args = #[v0] := by cases args; simp_all
  obtain ⟨rfl, rfl⟩ := trodVars_none hV
  obtain ⟨a0, rfl, rfl, rfl, y0⟩ := Go.ChangeMaps.open_string Tryz.underlying9 (hval 0 9 v0 rfl rfl) h0
  have w0 : a0.size ≤ 140737488351232 := by
    have z := sized_string hsz (j := 0) (t := 9) rfl rfl
    rw [Array.length_toList] at z
    exact z
  have hG := glob_of_laid hL
  have h7 := size_of_laid hL
  clear hA0 hval0 hsz0 hsz
  refine (law_calls a0 (by omega) W hG h7).mono fun e W' ⟨he, bel⟩ => ?_
  subst he
  exact ⟨_, rfl, _, _, _, [], _, [], hW', trodAll_mk1 (shut_bool Tryz.underlying4 _), (trodAll_cons_mk (Go.ChangeMaps.shut_string Tryz.underlying9 y0) trodAll_mk0), rfl, bel.frame _, fun h => by cases h⟩
theorem wordsOf_holds : Rows.WordsOfSaid :=
  OpenClaim.holds_of_wide 3 Tryz.f3 rfl rfl rfl rfl rfl rfl rfl ⟨rfl, rfl, rfl, rfl, rfl⟩ rfl rfl rfl rfl rfl (by kernel_rfl) Tryz.func3 (by kernel_rfl)
    (of_decide_eq_true (by kernel_rfl)) (by unfold Func.isWrapper; first | (rw [if_pos (by decide +kernel)]; kernel_rfl) | (rw [if_neg (by decide +kernel)]; exact ⟨rfl, rfl⟩))
    (fun os started H enc _ => row_lifted os started H enc)
end Go.Proofs.YtlneonmbhgppeaaGreatDoor
