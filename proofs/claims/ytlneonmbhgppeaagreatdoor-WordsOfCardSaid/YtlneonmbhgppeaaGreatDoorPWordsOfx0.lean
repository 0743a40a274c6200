-- PRINTED BY print.sh 35421559b90ae4d0a3588c463048766b98c2df88dd9212a6774a882060cdf62d: not written by this session
import Derived.Test.YtlneonmbhgppeaaGreatDoorProg
import Derived.Below
import Derived.Deep.Draws
import Derived.Deep.AppendLies
import Derived.Maps.AppendAt
import Derived.OwnWalk
import Derived.Laws.BytesArg
import Derived.Laws.MakeOwn
import Derived.Laws.OwnMore
import Derived.Deep.OwnRows
import Derived.Tactics
import Derived.Lib.ConvBytes
import Derived.Laws.Slices
import Derived.WalkKit
import Derived.KernelRfl
import Derived.RowKit3
import Derived.Deep.LoopGhost
import Derived.Deep.QuietTactic
import Derived.BigQuiet
import Derived.WideLaws
import Derived.Deep.DeepCutAuto
import Derived.Deep.CutBlock
import Derived.Deep.RegionHeld3
import Derived.Laws.Rows
import Derived.Lib.AppendStr
import Derived.ArgAppend
import Derived.Laws.IdiomCopy
import Derived.OrdersHeld
import Derived.Laws.BitsLemmas
import Derived.RowKit
import Derived.Test.YtlneonmbhgppeaaGreatDoorWWords
import Derived.Test.YtlneonmbhgppeaaGreatDoorWLast
import Derived.Test.YtlneonmbhgppeaaGreatDoorWTab
import Derived.Test.YtlneonmbhgppeaaGreatDoorWFour
import Derived.Test.YtlneonmbhgppeaaGreatDoorWQPut
import Derived.Test.YtlneonmbhgppeaaGreatDoorWApart
import Derived.Test.YtlneonmbhgppeaaGreatDoorWArr
import Derived.Test.YtlneonmbhgppeaaGreatDoorWZeros
import Derived.Test.YtlneonmbhgppeaaGreatDoorWFoot
import Derived.Test.YtlneonmbhgppeaaGreatDoorWKept
import Derived.Test.YtlneonmbhgppeaaGreatDoorWShare
import Derived.Test.YtlneonmbhgppeaaGreatDoorWN
import Derived.Test.YtlneonmbhgppeaaGreatDoorWFootNe
import Derived.Test.YtlneonmbhgppeaaGreatDoorWAt
import Derived.Test.YtlneonmbhgppeaaGreatDoorWEqStruct
import Derived.Test.YtlneonmbhgppeaaGreatDoorWRepsOne
import Derived.Test.YtlneonmbhgppeaaGreatDoorWInv
import Derived.Test.YtlneonmbhgppeaaGreatDoorWInvWords
import Derived.Test.YtlneonmbhgppeaaGreatDoorWGuard
import Derived.Test.YtlneonmbhgppeaaGreatDoorWNEv
import Derived.Test.YtlneonmbhgppeaaGreatDoorWMore
namespace Go.Proofs.YtlneonmbhgppeaaGreatDoor.PWordsOf
open Go.RowKit Go.Proofs.YtlneonmbhgppeaaGreatDoorW.PrintWords Go.Proofs.YtlneonmbhgppeaaGreatDoorW.PrintLast Go.Proofs.YtlneonmbhgppeaaGreatDoorW.PrintMore
attribute [local go_sem] max2_int min2_int max_two min_two max_three min_three max_four min_four   -- for this text's walks alone
set_option linter.unusedVariables false
set_option linter.unusedSimpArgs false



def errW : Option Int → Value
  | none => .nilIface
  | some c => .iface 176 (.int .i64 c)
theorem errW_none : errW none = .nilIface := rfl
theorem errW_some (c : Int) : errW (some c) = .iface 176 (.int .i64 c) := rfl

theorem info4 : (Tryz.prog.info? 4).map (fun i => (i.zero, i.size, i.bytes)) = some (some (.bool false), 1, 1) := by kernel_rfl
theorem info51 : (Tryz.prog.info? 51).map (fun i => (i.zero, i.size, i.bytes)) = some (some (.agg #[(.int .u8 0), (.string ⟨#[]⟩), (.int .i64 0), (.int .i64 0)]), 4, 40) := by kernel_rfl
-- the values' own types
/-! #### struct type 25 -/
structure S25 where
  f0 : Int
  f1 : Int
def z25 : S25 := ⟨(0 : Int), (0 : Int)⟩
def k25 : Kd S25 := Kd.iso (Kd.pair (Kd.int .i64) (Kd.int .i64)) (fun x : S25 => (x.f0, x.f1))
theorem k25_open {w : World} {x : S25} {cs : List Value} (h : k25.K w x cs) : cs = [.int .i64 x.f0, .int .i64 x.f1] := by
  obtain ⟨_, _, rfl, rfl, rfl⟩ := h
  exact rfl
theorem k25_openM {w : World} {base : Nat} {ok : Nat → Prop} {x : S25} {cs : List Value} (h : k25.M w base ok x cs) : cs = [.int .i64 x.f0, .int .i64 x.f1] := by
  obtain ⟨_, _, rfl, rfl, rfl⟩ := h
  exact rfl
theorem k25_mk (w : World) (x : S25)  : k25.K w x [.int .i64 x.f0, .int .i64 x.f1] := ⟨[.int .i64 x.f0], [.int .i64 x.f1], rfl, rfl, rfl⟩
theorem k25_mkM (w : World) (base : Nat) (ok : Nat → Prop) (x : S25)  : k25.M w base ok x [.int .i64 x.f0, .int .i64 x.f1] := ⟨[.int .i64 x.f0], [.int .i64 x.f1], rfl, rfl, rfl⟩
def rd_T25 (xs : List S25) (i : Int) : S25 := xs.getD i.toNat z25
theorem at_T25 {w : World} {A : Option Addr} {n : Nat} {xs : List S25} (h : Kd.C k25 w A n xs) (i : Int) (h0 : 0 ≤ i) (h1 : i < n) : ∃ ad , A = some ad ∧ w.cell? (ad.add (i.toNat * 2)) = some (.int .i64 (rd_T25 xs i).f0) ∧ w.cell? ⟨(ad.add (i.toNat * 2)).block, (ad.add (i.toNat * 2)).off + 1, none⟩ = some (.int .i64 (rd_T25 xs i).f1) := by
  obtain ⟨ad, c, e, _, hK, hc0⟩ := Kd.C_get h z25 i h0 h1
  have hc : ∀ j u, c[j]? = some u → w.cell? (ad.add (i.toNat * 2 + j)) = some u := hc0
  obtain rfl := k25_open hK
  exact ⟨ad, e, hc 0 _ rfl, by rw [← add_field _ _ 1 (by omega)]; exact hc 1 _ rfl⟩

/-! #### struct type 51 -/
structure S51 where
  f0 : Int
  f1 : ByteArray
  f2 : S25
def z51 : S51 := ⟨(0 : Int), (⟨#[]⟩ : ByteArray), z25⟩
def k51 : Kd S51 := Kd.iso (Kd.pair (Kd.int .u8) (Kd.pair Kd.string k25)) (fun x : S51 => (x.f0, x.f1, x.f2))
theorem k51_open {w : World} {x : S51} {cs : List Value} (h : k51.K w x cs) : cs = [.int .u8 x.f0, .string x.f1, .int .i64 x.f2.f0, .int .i64 x.f2.f1] := by
  obtain ⟨_, _, rfl, rfl, ⟨_, _, rfl, rfl, s2⟩⟩ := h
  obtain rfl := k25_open s2
  exact rfl
theorem k51_openM {w : World} {base : Nat} {ok : Nat → Prop} {x : S51} {cs : List Value} (h : k51.M w base ok x cs) : cs = [.int .u8 x.f0, .string x.f1, .int .i64 x.f2.f0, .int .i64 x.f2.f1] := by
  obtain ⟨_, _, rfl, rfl, ⟨_, _, rfl, rfl, s2⟩⟩ := h
  obtain rfl := k25_openM s2
  exact rfl
theorem k51_mk (w : World) (x : S51)  : k51.K w x [.int .u8 x.f0, .string x.f1, .int .i64 x.f2.f0, .int .i64 x.f2.f1] := ⟨[.int .u8 x.f0], [.string x.f1, .int .i64 x.f2.f0, .int .i64 x.f2.f1], rfl, rfl, ⟨[.string x.f1], [.int .i64 x.f2.f0, .int .i64 x.f2.f1], rfl, rfl, (k25_mk w x.f2 )⟩⟩
theorem k51_mkM (w : World) (base : Nat) (ok : Nat → Prop) (x : S51)  : k51.M w base ok x [.int .u8 x.f0, .string x.f1, .int .i64 x.f2.f0, .int .i64 x.f2.f1] := ⟨[.int .u8 x.f0], [.string x.f1, .int .i64 x.f2.f0, .int .i64 x.f2.f1], rfl, rfl, ⟨[.string x.f1], [.int .i64 x.f2.f0, .int .i64 x.f2.f1], rfl, rfl, (k25_mkM w base ok x.f2 )⟩⟩
def rd_T51 (xs : List S51) (i : Int) : S51 := xs.getD i.toNat z51
theorem at_T51 {w : World} {A : Option Addr} {n : Nat} {xs : List S51} (h : Kd.C k51 w A n xs) (i : Int) (h0 : 0 ≤ i) (h1 : i < n) : ∃ ad , A = some ad ∧ w.cell? (ad.add (i.toNat * 4)) = some (.int .u8 (rd_T51 xs i).f0) ∧ w.cell? ⟨(ad.add (i.toNat * 4)).block, (ad.add (i.toNat * 4)).off + 1, none⟩ = some (.string (rd_T51 xs i).f1) ∧ w.cell? ⟨(ad.add (i.toNat * 4)).block, (ad.add (i.toNat * 4)).off + 2, none⟩ = some (.int .i64 (rd_T51 xs i).f2.f0) ∧ w.cell? ⟨(ad.add (i.toNat * 4)).block, (ad.add (i.toNat * 4)).off + 3, none⟩ = some (.int .i64 (rd_T51 xs i).f2.f1) := by
  obtain ⟨ad, c, e, _, hK, hc0⟩ := Kd.C_get h z51 i h0 h1
  have hc : ∀ j u, c[j]? = some u → w.cell? (ad.add (i.toNat * 4 + j)) = some u := hc0
  obtain rfl := k51_open hK
  exact ⟨ad, e, hc 0 _ rfl, by rw [← add_field _ _ 1 (by omega)]; exact hc 1 _ rfl, by rw [← add_field _ _ 2 (by omega)]; exact hc 2 _ rfl, by rw [← add_field _ _ 3 (by omega)]; exact hc 3 _ rfl⟩

/-! #### struct type 111 -/
structure S111 where
  f0 : Bool
  f1 : Int
def z111 : S111 := ⟨false, (0 : Int)⟩
def k111 : Kd S111 := Kd.iso (Kd.pair Kd.bool (Kd.int .u64)) (fun x : S111 => (x.f0, x.f1))
theorem k111_open {w : World} {x : S111} {cs : List Value} (h : k111.K w x cs) : cs = [.bool x.f0, .int .u64 x.f1] := by
  obtain ⟨_, _, rfl, rfl, rfl⟩ := h
  exact rfl
theorem k111_openM {w : World} {base : Nat} {ok : Nat → Prop} {x : S111} {cs : List Value} (h : k111.M w base ok x cs) : cs = [.bool x.f0, .int .u64 x.f1] := by
  obtain ⟨_, _, rfl, rfl, rfl⟩ := h
  exact rfl
theorem k111_mk (w : World) (x : S111)  : k111.K w x [.bool x.f0, .int .u64 x.f1] := ⟨[.bool x.f0], [.int .u64 x.f1], rfl, rfl, rfl⟩
theorem k111_mkM (w : World) (base : Nat) (ok : Nat → Prop) (x : S111)  : k111.M w base ok x [.bool x.f0, .int .u64 x.f1] := ⟨[.bool x.f0], [.int .u64 x.f1], rfl, rfl, rfl⟩
def rd_T111 (xs : List S111) (i : Int) : S111 := xs.getD i.toNat z111
theorem at_T111 {w : World} {A : Option Addr} {n : Nat} {xs : List S111} (h : Kd.C k111 w A n xs) (i : Int) (h0 : 0 ≤ i) (h1 : i < n) : ∃ ad , A = some ad ∧ w.cell? (ad.add (i.toNat * 2)) = some (.bool (rd_T111 xs i).f0) ∧ w.cell? ⟨(ad.add (i.toNat * 2)).block, (ad.add (i.toNat * 2)).off + 1, none⟩ = some (.int .u64 (rd_T111 xs i).f1) := by
  obtain ⟨ad, c, e, _, hK, hc0⟩ := Kd.C_get h z111 i h0 h1
  have hc : ∀ j u, c[j]? = some u → w.cell? (ad.add (i.toNat * 2 + j)) = some u := hc0
  obtain rfl := k111_open hK
  exact ⟨ad, e, hc 0 _ rfl, by rw [← add_field _ _ 1 (by omega)]; exact hc 1 _ rfl⟩

/-! #### struct type 113 -/
structure S113 where
  f0 : Int
  f1 : Int
  f2 : ByteArray
  f3 : Int
  f4 : S111
  f5 : S111
  f6 : S111
def z113 : S113 := ⟨(0 : Int), (0 : Int), (⟨#[]⟩ : ByteArray), (0 : Int), z111, z111, z111⟩
def k113 : Kd S113 := Kd.iso (Kd.pair (Kd.int .u8) (Kd.pair (Kd.int .i64) (Kd.pair Kd.string (Kd.pair (Kd.int .i64) (Kd.pair k111 (Kd.pair k111 k111)))))) (fun x : S113 => (x.f0, x.f1, x.f2, x.f3, x.f4, x.f5, x.f6))
theorem k113_open {w : World} {x : S113} {cs : List Value} (h : k113.K w x cs) : cs = [.int .u8 x.f0, .int .i64 x.f1, .string x.f2, .int .i64 x.f3, .bool x.f4.f0, .int .u64 x.f4.f1, .bool x.f5.f0, .int .u64 x.f5.f1, .bool x.f6.f0, .int .u64 x.f6.f1] := by
  obtain ⟨_, _, rfl, rfl, ⟨_, _, rfl, rfl, ⟨_, _, rfl, rfl, ⟨_, _, rfl, rfl, ⟨_, _, rfl, s4, ⟨_, _, rfl, s6, s8⟩⟩⟩⟩⟩⟩ := h
  obtain rfl := k111_open s4
  obtain rfl := k111_open s6
  obtain rfl := k111_open s8
  exact rfl
theorem k113_openM {w : World} {base : Nat} {ok : Nat → Prop} {x : S113} {cs : List Value} (h : k113.M w base ok x cs) : cs = [.int .u8 x.f0, .int .i64 x.f1, .string x.f2, .int .i64 x.f3, .bool x.f4.f0, .int .u64 x.f4.f1, .bool x.f5.f0, .int .u64 x.f5.f1, .bool x.f6.f0, .int .u64 x.f6.f1] := by
  obtain ⟨_, _, rfl, rfl, ⟨_, _, rfl, rfl, ⟨_, _, rfl, rfl, ⟨_, _, rfl, rfl, ⟨_, _, rfl, s4, ⟨_, _, rfl, s6, s8⟩⟩⟩⟩⟩⟩ := h
  obtain rfl := k111_openM s4
  obtain rfl := k111_openM s6
  obtain rfl := k111_openM s8
  exact rfl
theorem k113_mk (w : World) (x : S113)  : k113.K w x [.int .u8 x.f0, .int .i64 x.f1, .string x.f2, .int .i64 x.f3, .bool x.f4.f0, .int .u64 x.f4.f1, .bool x.f5.f0, .int .u64 x.f5.f1, .bool x.f6.f0, .int .u64 x.f6.f1] := ⟨[.int .u8 x.f0], [.int .i64 x.f1, .string x.f2, .int .i64 x.f3, .bool x.f4.f0, .int .u64 x.f4.f1, .bool x.f5.f0, .int .u64 x.f5.f1, .bool x.f6.f0, .int .u64 x.f6.f1], rfl, rfl, ⟨[.int .i64 x.f1], [.string x.f2, .int .i64 x.f3, .bool x.f4.f0, .int .u64 x.f4.f1, .bool x.f5.f0, .int .u64 x.f5.f1, .bool x.f6.f0, .int .u64 x.f6.f1], rfl, rfl, ⟨[.string x.f2], [.int .i64 x.f3, .bool x.f4.f0, .int .u64 x.f4.f1, .bool x.f5.f0, .int .u64 x.f5.f1, .bool x.f6.f0, .int .u64 x.f6.f1], rfl, rfl, ⟨[.int .i64 x.f3], [.bool x.f4.f0, .int .u64 x.f4.f1, .bool x.f5.f0, .int .u64 x.f5.f1, .bool x.f6.f0, .int .u64 x.f6.f1], rfl, rfl, ⟨[.bool x.f4.f0, .int .u64 x.f4.f1], [.bool x.f5.f0, .int .u64 x.f5.f1, .bool x.f6.f0, .int .u64 x.f6.f1], rfl, (k111_mk w x.f4 ), ⟨[.bool x.f5.f0, .int .u64 x.f5.f1], [.bool x.f6.f0, .int .u64 x.f6.f1], rfl, (k111_mk w x.f5 ), (k111_mk w x.f6 )⟩⟩⟩⟩⟩⟩
theorem k113_mkM (w : World) (base : Nat) (ok : Nat → Prop) (x : S113)  : k113.M w base ok x [.int .u8 x.f0, .int .i64 x.f1, .string x.f2, .int .i64 x.f3, .bool x.f4.f0, .int .u64 x.f4.f1, .bool x.f5.f0, .int .u64 x.f5.f1, .bool x.f6.f0, .int .u64 x.f6.f1] := ⟨[.int .u8 x.f0], [.int .i64 x.f1, .string x.f2, .int .i64 x.f3, .bool x.f4.f0, .int .u64 x.f4.f1, .bool x.f5.f0, .int .u64 x.f5.f1, .bool x.f6.f0, .int .u64 x.f6.f1], rfl, rfl, ⟨[.int .i64 x.f1], [.string x.f2, .int .i64 x.f3, .bool x.f4.f0, .int .u64 x.f4.f1, .bool x.f5.f0, .int .u64 x.f5.f1, .bool x.f6.f0, .int .u64 x.f6.f1], rfl, rfl, ⟨[.string x.f2], [.int .i64 x.f3, .bool x.f4.f0, .int .u64 x.f4.f1, .bool x.f5.f0, .int .u64 x.f5.f1, .bool x.f6.f0, .int .u64 x.f6.f1], rfl, rfl, ⟨[.int .i64 x.f3], [.bool x.f4.f0, .int .u64 x.f4.f1, .bool x.f5.f0, .int .u64 x.f5.f1, .bool x.f6.f0, .int .u64 x.f6.f1], rfl, rfl, ⟨[.bool x.f4.f0, .int .u64 x.f4.f1], [.bool x.f5.f0, .int .u64 x.f5.f1, .bool x.f6.f0, .int .u64 x.f6.f1], rfl, (k111_mkM w base ok x.f4 ), ⟨[.bool x.f5.f0, .int .u64 x.f5.f1], [.bool x.f6.f0, .int .u64 x.f6.f1], rfl, (k111_mkM w base ok x.f5 ), (k111_mkM w base ok x.f6 )⟩⟩⟩⟩⟩⟩
def rd_T113 (xs : List S113) (i : Int) : S113 := xs.getD i.toNat z113
theorem at_T113 {w : World} {A : Option Addr} {n : Nat} {xs : List S113} (h : Kd.C k113 w A n xs) (i : Int) (h0 : 0 ≤ i) (h1 : i < n) : ∃ ad , A = some ad ∧ w.cell? (ad.add (i.toNat * 10)) = some (.int .u8 (rd_T113 xs i).f0) ∧ w.cell? ⟨(ad.add (i.toNat * 10)).block, (ad.add (i.toNat * 10)).off + 1, none⟩ = some (.int .i64 (rd_T113 xs i).f1) ∧ w.cell? ⟨(ad.add (i.toNat * 10)).block, (ad.add (i.toNat * 10)).off + 2, none⟩ = some (.string (rd_T113 xs i).f2) ∧ w.cell? ⟨(ad.add (i.toNat * 10)).block, (ad.add (i.toNat * 10)).off + 3, none⟩ = some (.int .i64 (rd_T113 xs i).f3) ∧ w.cell? ⟨(ad.add (i.toNat * 10)).block, (ad.add (i.toNat * 10)).off + 4, none⟩ = some (.bool (rd_T113 xs i).f4.f0) ∧ w.cell? ⟨(ad.add (i.toNat * 10)).block, (ad.add (i.toNat * 10)).off + 5, none⟩ = some (.int .u64 (rd_T113 xs i).f4.f1) ∧ w.cell? ⟨(ad.add (i.toNat * 10)).block, (ad.add (i.toNat * 10)).off + 6, none⟩ = some (.bool (rd_T113 xs i).f5.f0) ∧ w.cell? ⟨(ad.add (i.toNat * 10)).block, (ad.add (i.toNat * 10)).off + 7, none⟩ = some (.int .u64 (rd_T113 xs i).f5.f1) ∧ w.cell? ⟨(ad.add (i.toNat * 10)).block, (ad.add (i.toNat * 10)).off + 8, none⟩ = some (.bool (rd_T113 xs i).f6.f0) ∧ w.cell? ⟨(ad.add (i.toNat * 10)).block, (ad.add (i.toNat * 10)).off + 9, none⟩ = some (.int .u64 (rd_T113 xs i).f6.f1) := by
  obtain ⟨ad, c, e, _, hK, hc0⟩ := Kd.C_get h z113 i h0 h1
  have hc : ∀ j u, c[j]? = some u → w.cell? (ad.add (i.toNat * 10 + j)) = some u := hc0
  obtain rfl := k113_open hK
  exact ⟨ad, e, hc 0 _ rfl, by rw [← add_field _ _ 1 (by omega)]; exact hc 1 _ rfl, by rw [← add_field _ _ 2 (by omega)]; exact hc 2 _ rfl, by rw [← add_field _ _ 3 (by omega)]; exact hc 3 _ rfl, by rw [← add_field _ _ 4 (by omega)]; exact hc 4 _ rfl, by rw [← add_field _ _ 5 (by omega)]; exact hc 5 _ rfl, by rw [← add_field _ _ 6 (by omega)]; exact hc 6 _ rfl, by rw [← add_field _ _ 7 (by omega)]; exact hc 7 _ rfl, by rw [← add_field _ _ 8 (by omega)]; exact hc 8 _ rfl, by rw [← add_field _ _ 9 (by omega)]; exact hc 9 _ rfl⟩

/-! #### struct type 119 -/
structure S119 where
  f0 : S111
  f1 : S111
def z119 : S119 := ⟨z111, z111⟩
def k119 : Kd S119 := Kd.iso (Kd.pair k111 k111) (fun x : S119 => (x.f0, x.f1))
theorem k119_open {w : World} {x : S119} {cs : List Value} (h : k119.K w x cs) : cs = [.bool x.f0.f0, .int .u64 x.f0.f1, .bool x.f1.f0, .int .u64 x.f1.f1] := by
  obtain ⟨_, _, rfl, s0, s2⟩ := h
  obtain rfl := k111_open s0
  obtain rfl := k111_open s2
  exact rfl
theorem k119_openM {w : World} {base : Nat} {ok : Nat → Prop} {x : S119} {cs : List Value} (h : k119.M w base ok x cs) : cs = [.bool x.f0.f0, .int .u64 x.f0.f1, .bool x.f1.f0, .int .u64 x.f1.f1] := by
  obtain ⟨_, _, rfl, s0, s2⟩ := h
  obtain rfl := k111_openM s0
  obtain rfl := k111_openM s2
  exact rfl
theorem k119_mk (w : World) (x : S119)  : k119.K w x [.bool x.f0.f0, .int .u64 x.f0.f1, .bool x.f1.f0, .int .u64 x.f1.f1] := ⟨[.bool x.f0.f0, .int .u64 x.f0.f1], [.bool x.f1.f0, .int .u64 x.f1.f1], rfl, (k111_mk w x.f0 ), (k111_mk w x.f1 )⟩
theorem k119_mkM (w : World) (base : Nat) (ok : Nat → Prop) (x : S119)  : k119.M w base ok x [.bool x.f0.f0, .int .u64 x.f0.f1, .bool x.f1.f0, .int .u64 x.f1.f1] := ⟨[.bool x.f0.f0, .int .u64 x.f0.f1], [.bool x.f1.f0, .int .u64 x.f1.f1], rfl, (k111_mkM w base ok x.f0 ), (k111_mkM w base ok x.f1 )⟩
def rd_T119 (xs : List S119) (i : Int) : S119 := xs.getD i.toNat z119
theorem at_T119 {w : World} {A : Option Addr} {n : Nat} {xs : List S119} (h : Kd.C k119 w A n xs) (i : Int) (h0 : 0 ≤ i) (h1 : i < n) : ∃ ad , A = some ad ∧ w.cell? (ad.add (i.toNat * 4)) = some (.bool (rd_T119 xs i).f0.f0) ∧ w.cell? ⟨(ad.add (i.toNat * 4)).block, (ad.add (i.toNat * 4)).off + 1, none⟩ = some (.int .u64 (rd_T119 xs i).f0.f1) ∧ w.cell? ⟨(ad.add (i.toNat * 4)).block, (ad.add (i.toNat * 4)).off + 2, none⟩ = some (.bool (rd_T119 xs i).f1.f0) ∧ w.cell? ⟨(ad.add (i.toNat * 4)).block, (ad.add (i.toNat * 4)).off + 3, none⟩ = some (.int .u64 (rd_T119 xs i).f1.f1) := by
  obtain ⟨ad, c, e, _, hK, hc0⟩ := Kd.C_get h z119 i h0 h1
  have hc : ∀ j u, c[j]? = some u → w.cell? (ad.add (i.toNat * 4 + j)) = some u := hc0
  obtain rfl := k119_open hK
  exact ⟨ad, e, hc 0 _ rfl, by rw [← add_field _ _ 1 (by omega)]; exact hc 1 _ rfl, by rw [← add_field _ _ 2 (by omega)]; exact hc 2 _ rfl, by rw [← add_field _ _ 3 (by omega)]; exact hc 3 _ rfl⟩

end Go.Proofs.YtlneonmbhgppeaaGreatDoor.PWordsOf
