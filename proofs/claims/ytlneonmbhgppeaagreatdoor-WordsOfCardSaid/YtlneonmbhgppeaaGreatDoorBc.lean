/- A Book's memory: its lists of words, each with its row. No program but the rows' types. -/
import Derived.Test.YtlneonmbhgppeaaGreatDoorBb
import Derived.Deep.DeepAppendRoom
import Derived.Deep.DeepAppendWide
namespace Go.Proofs.YtlneonmbhgppeaaGreatDoor
open Go.RowKit
set_option linter.unusedVariables false
/-- a list that the Book holds, and the longer one -/
structure Ent where
  v : Value
  n : Nat
  xs : List Value
  long : Value
  ln : Nat
  lxs : List Value
def Ent.has (e : Ent) (g : Nat) : Prop := e.v.ownBlock = some g ∨ e.long.ownBlock = some g
def rowsV : Nat → List Ent → List Value
  | _, [] => []
  | k, e :: r => e.v :: e.long :: .int .i64 (k : Int) :: rowsV (k + 1) r
theorem rowsV_length (E : List Ent) : ∀ k, (rowsV k E).length = E.length * 3 := by
  induction E with
  | nil => intro k; rfl
  | cons e r ih => intro k; simp [rowsV, ih]; omega
theorem rowsV_get (E : List Ent) : ∀ (k i : Nat) (e : Ent), E[i]? = some e → (rowsV k E)[i * 3]? = some e.v ∧ (rowsV k E)[i * 3 + 1]? = some e.long ∧ (rowsV k E)[i * 3 + 2]? = some (.int .i64 ((k + i : Nat) : Int)) := by
  induction E with
  | nil => intro k i e h; simp at h
  | cons x r ih =>
    intro k i e h
    cases i with
    | zero =>
      simp at h
      subst h
      simp [rowsV]
    | succ i =>
      simp at h
      have := ih (k + 1) i e h
      have e1 : (i + 1) * 3 = i * 3 + 3 := by omega
      have e2 : k + (i + 1) = k + 1 + i := by omega
      rw [e1, e2]
      simpa [rowsV] using this
theorem rowsV_long (E : List Ent) : ∀ (k i : Nat) (e f : Ent), E[i]? = some e → f.v = e.v → (rowsV k E).set (i * 3 + 1) f.long = rowsV k (E.set i f) := by
  induction E with
  | nil => intro k i e f h; simp at h
  | cons x r ih =>
    intro k i e f h hf
    cases i with
    | zero =>
      simp at h
      subst h
      simp [rowsV, hf]
    | succ i =>
      simp at h
      have := ih (k + 1) i e f h hf
      have e1 : (i + 1) * 3 + 1 = (i * 3 + 1) + 3 := by omega
      rw [e1]
      simp [rowsV, this]
theorem rowsV_same (E : List Ent) : ∀ (k i : Nat) (e f : Ent), E[i]? = some e → f.v = e.v → f.long = e.long → rowsV k (E.set i f) = rowsV k E := by
  induction E with
  | nil => intro k i e f h; simp at h
  | cons x r ih =>
    intro k i e f h hf hl
    cases i with
    | zero =>
      simp at h
      subst h
      simp [rowsV, hf, hl]
    | succ i =>
      simp at h
      simp [rowsV, ih (k + 1) i e f h hf hl]
theorem rowsV_snoc (E : List Ent) (e : Ent) : ∀ k, rowsV k (E ++ [e]) = rowsV k E ++ [e.v, e.long, .int .i64 ((k + E.length : Nat) : Int)] := by
  induction E with
  | nil => intro k; simp [rowsV]
  | cons x r ih =>
    intro k
    have e1 : k + 1 + r.length = k + (r.length + 1) := by omega
    simp [rowsV, ih, e1]
/-- the Book's own cells -/
def bookC (n : Nat) (bv : Value) : Array Value := #[.int .i64 (n : Int), .slice none 0 0, .slice none 0 0, .slice none 0 0, .slice none 0 0, .slice none 0 0, .slice none 0 0, .slice none 0 0, .slice none 0 0, .slice none 0 0, .slice none 0 0, .slice none 0 0, .slice none 0 0, .slice none 0 0, .slice none 0 0, bv]
structure BW (w : World) (base kb : Nat) (bv : Value) (E : List Ent) : Prop where
  bk : Blk w kb 45 (bookC E.length bv)
  hb : base ≤ kb
  row : w.ownsRow kb 77 3 bv E.length (rowsV 1 E)
  lst : ∀ (i : Nat) (e : Ent), E[i]? = some e → w.ownsRow base 51 4 e.v e.n e.xs ∧ w.ownsRow base 51 4 e.long e.ln e.lxs
  ap : ∀ (i j : Nat) (e f : Ent) (g : Nat), E[i]? = some e → E[j]? = some f → e.has g → f.has g → i = j
section
variable {w w' : World} {base size n m size' : Nat} {e e' : TypeId} {v v' : Value} {xs ys : List Value}
/-- rows of different types lie in different blocks -/
theorem own_ne {base' : Nat} (h : w.ownsRow base e size v n xs) (k : w.ownsRow base' e' size' v' m ys) (hne : e ≠ e') (g : Nat) (hg : v.ownBlock = some g) : v'.ownBlock ≠ some g := by
  intro hk
  rcases h.2 with ⟨rfl, _⟩ | ⟨g1, c1, cur1, rfl, _, hh1, _⟩
  · simp [Value.ownBlock] at hg
  · rcases k.2 with ⟨rfl, _⟩ | ⟨g2, c2, cur2, rfl, _, hh2, _⟩
    · simp [Value.ownBlock] at hk
    · have e1 : g1 = g := by simpa [Value.ownBlock] using hg
      have e2 : g2 = g := by simpa [Value.ownBlock] using hk
      subst e1 e2
      rw [hh1] at hh2
      injection hh2 with hh2
      injection hh2 with _ h3
      exact hne h3
/-- the first part of a longer row of the same block -/
theorem own_part {g cap cap' : Nat} (h : w.ownsRow base e size (.slice (some ⟨g, 0, none⟩) n cap) n xs) (k : w'.ownsRow base e size (.slice (some ⟨g, 0, none⟩) (n + m) cap') (n + m) (xs ++ ys)) (hc : cap = cap') : w'.ownsRow base e size (.slice (some ⟨g, 0, none⟩) n cap) n xs := by
  subst hc
  refine ⟨h.1, .inr ?_⟩
  rcases k.2 with ⟨hv, _⟩ | ⟨g2, c2, cur2, hv, hb, hh, hn, hm, hs, ht⟩
  · cases hv
  · injection hv with hv _ hc
    injection hv with hv
    injection hv with hv
    subst hv hc
    refine ⟨g, cap, cur2, rfl, hb, hh, by omega, hm, hs, ?_⟩
    have hle : n * size ≤ (n + m) * size := Nat.mul_le_mul_right _ (by omega)
    have : (cur2.toList.take ((n + m) * size)).take (n * size) = (xs ++ ys).take (n * size) := by rw [ht]
    rw [List.take_take, Nat.min_eq_left hle] at this
    rw [this, ← h.1]
    exact List.take_left
theorem own_cap {g cap cap' : Nat} (h : w.ownsRow base e size (.slice (some ⟨g, 0, none⟩) n cap) n xs) (k : w.ownsRow base e size (.slice (some ⟨g, 0, none⟩) m cap') m ys) (hs : 0 < size) : cap = cap' := by
  rcases h.2 with ⟨hv, _⟩ | ⟨g1, c1, cur1, hv1, _, hh1, _, _, hs1, _⟩
  · cases hv
  · rcases k.2 with ⟨hv, _⟩ | ⟨g2, c2, cur2, hv2, _, hh2, _, _, hs2, _⟩
    · cases hv
    · injection hv1 with ha1 _ hc1
      injection hv2 with ha2 _ hc2
      injection ha1 with ha1
      injection ha1 with ha1
      injection ha2 with ha2
      injection ha2 with ha2
      subst ha1 ha2 hc1 hc2
      rw [hh1] at hh2
      injection hh2 with hh2
      injection hh2 with hcur
      rw [hcur, hs2] at hs1
      exact (Nat.eq_of_mul_eq_mul_right hs hs1).symm
end
/-- append's law, with what becomes of the old block: in place, or the old one is as it was -/
theorem run_append_split {P : Program} (w : World) (t ty : TypeId) (base : Nat) (e : TypeId) (i : TypeInfo) (z : Value) (size bytes : Nat) (ht : P.underlying t = some (.slice e)) (hi : P.info? e = some i) (hz : i.zero = some z)
    (hsize : i.size = size) (hby : i.bytes = bytes) (hzs : z.cells.size = size) (hsz : 0 < size)
    (v : Value) (n : Nat) (xs : List Value) (hown : w.ownsRow base e size v n xs)
    (ad : Addr) (m c : Nat) (news : List Value) (hl : news.length = m * size) (hnews : ∀ j u, news[j]? = some u → w.cell? (ad.add j) = some u) (h1 : ∀ u ∈ news, u.oneCell' = true)
    (hm : 0 < m) (h63 : n + m ≤ maxLen) (hbytes : (n + m) * bytes ≤ 140737488355328) (hbase : base ≤ w.heap.size) :
    ∃ g cap w', (Builtin.append_ #[t, t] ty #[v, .slice (some ad) m c]).run P w = .ok (.slice (some ⟨g, 0, none⟩) (n + m) cap) w' ∧
      w'.ownsRow base e size (.slice (some ⟨g, 0, none⟩) (n + m) cap) (n + m) (xs ++ news) ∧
      ((v = .slice (some ⟨g, 0, none⟩) n cap ∧ w.grownBy w' (some g)) ∨ (g = w.heap.size ∧ w.grownBy w' none)) := by
  obtain ⟨g, cap, w', hr, h2, h3, h4, h5⟩ := run_append_lies (P := P) w t ty base e i z size bytes ht hi hz hsize hby hzs hsz v n xs hown ad m c news hl hnews h1 hm h63 hbytes hbase w.heap.size rfl
  refine ⟨g, cap, w', hr, h2, ?_⟩
  rcases hown.2 with ⟨rfl, rfl⟩ | ⟨g0, cap0, cur, rfl, hbg, hg, hnc, hcm, hcs, htake⟩
  · right
    refine ⟨?_, h3⟩
    rcases h4 with h4 | h4
    · simp [Value.ownBlock] at h4
    · exact h4
  · by_cases hroom : n + m ≤ cap0
    · left
      obtain ⟨w2, hr2, k2, k3⟩ := run_append_own_spare (P := P) w base t ty e i size ht hi hsize g0 n cap0 xs hown ad m c news hl hnews h1 hroom
      rw [hr2] at hr
      injection hr with hr hw
      injection hr with hr _ hc
      injection hr with hr
      injection hr with hr
      subst hr hc hw
      exact ⟨rfl, k3⟩
    · right
      have holds : ∀ j u, xs[j]? = some u → w.cell? ((⟨g0, 0, none⟩ : Addr).add j) = some u := hown.cells (g := g0) rfl
      subst hsize hby
      have hsmall : n + m ≤ 9223372036854775807 := by simp only [maxLen] at h63; omega
      have hfits := growslice_fits (need := n + m) (old := cap0) (bytes := i.bytes) (by omega) hbytes
      have hr3 := run_append_grow (P := P) w t ty e i z ht hi hz ⟨g0, 0, none⟩ n cap0 xs hown.1 holds ad m c news hl hnews (by omega) (by omega) hfits
      rw [hr3] at hr
      injection hr with hr hw
      injection hr with hr _ hc
      injection hr with hr
      injection hr with hr
      refine ⟨hr.symm, ?_⟩
      rw [← hw]
      exact only_alloc (only_drew (World.grownBy.refl w none)) _
section
variable {P : Program}
/-- what became of the rest, behind an append -/
def Split (w w' : World) (v : Value) (n g cap : Nat) : Prop := (v = .slice (some ⟨g, 0, none⟩) n cap ∧ w.grownBy w' (some g)) ∨ (g = w.heap.size ∧ w.grownBy w' none)
theorem Split.blk {w w' : World} {v : Value} {n g cap kb : Nat} {t : TypeId} {cs : Array Value} (h : Split w w' v n g cap) (hb : Blk w kb t cs) (hne : v.ownBlock ≠ some kb) : Blk w' kb t cs := by
  rcases h with ⟨rfl, h⟩ | ⟨_, h⟩
  · exact hb.grown h (fun e => hne (by rw [e]; rfl))
  · exact hb.grown h (by simp)
theorem Split.own {w w' : World} {v : Value} {n g cap base m size : Nat} {e : TypeId} {u : Value} {xs : List Value} (h : Split w w' v n g cap) (hu : w.ownsRow base e size u m xs) (hne : ∀ k, u.ownBlock = some k → v.ownBlock ≠ some k) : w'.ownsRow base e size u m xs := by
  rcases h with ⟨rfl, h⟩ | ⟨_, h⟩
  · exact own_keep hu h (fun e => hne g e rfl)
  · exact hu.kept h (by cases u.ownBlock <;> simp)
theorem Split.below {w w' a : World} {v : Value} {n g cap base m size : Nat} {e : TypeId} {xs : List Value} (h : Split w w' v n g cap) (ha : Below base a w) (hu : w.ownsRow base e size v m xs) (hb : base ≤ w.heap.size) : Below base a w' := by
  rcases h with ⟨rfl, h⟩ | ⟨_, h⟩
  · exact ha.grown h hb (fun k hk => (own_lt hu k (by rw [← hk]; rfl)).1)
  · exact ha.grown h hb (by simp)
theorem Split.size {w w' : World} {v : Value} {n g cap : Nat} (h : Split w w' v n g cap) : w.heap.size ≤ w'.heap.size := by
  rcases h with ⟨_, h⟩ | ⟨_, h⟩ <;> exact h.size
/-- at the operation -/
theorem wp_append_split (w : World) {o : Oper} {a : Act} {K : Act → World → Prop} {Q : Exit → Act → World → Prop} (s x : Operand) (t : TypeId)
    (ho : o.op = .call { callee := .builtin .append, args := #[s, x], argTypes := #[t, t] })
    (base : Nat) (e : TypeId) (i : TypeInfo) (z : Value) (size bytes : Nat) (ht : P.underlying t = some (.slice e)) (hi : P.info? e = some i) (hz : i.zero = some z)
    (hsize : i.size = size) (hby : i.bytes = bytes) (hzs : z.cells.size = size) (hsz : 0 < size)
    (v : Value) (n : Nat) (xs : List Value) (hs : a.eval s = v) (hown : w.ownsRow base e size v n xs)
    (ad : Addr) (m c : Nat) (news : List Value) (hx : a.eval x = .slice (some ad) m c) (hl : news.length = m * size) (hnews : ∀ j u, news[j]? = some u → w.cell? (ad.add j) = some u) (h1 : ∀ u ∈ news, u.oneCell' = true)
    (hm : 0 < m) (h63 : n + m ≤ maxLen) (hbytes : (n + m) * bytes ≤ 140737488355328) (hbase : base ≤ w.heap.size)
    (h : ∀ g cap w', w'.ownsRow base e size (.slice (some ⟨g, 0, none⟩) (n + m) cap) (n + m) (xs ++ news) → Split w w' v n g cap → K (a.put o.dst (.slice (some ⟨g, 0, none⟩) (n + m) cap)) w') : o.wp P a w K Q := by
  obtain ⟨g, cap, w', hr, h2, h3⟩ := run_append_split (P := P) w t o.type base e i z size bytes ht hi hz hsize hby hzs hsz v n xs hown ad m c news hl hnews h1 hm h63 hbytes hbase
  unfold Oper.wp execOp
  simp only [ho, resolve, invoke, builtin, Sem.run_bind, Sem.run_pure, Result.andThen_ok, List.map_toArray, List.map_cons, List.map_nil, hs, hx, hr]
  exact h g cap w' h2 h3
/-- at a plain region's list -/
theorem wpList_append_split (w : World) {ops : Array Oper} {rest : List Oper} {o : Oper} {a : Act} {Q : Exit → Act → World → Prop} (hgd : o.guard = none) (s x : Operand) (t : TypeId)
    (ho : o.op = .call { callee := .builtin .append, args := #[s, x], argTypes := #[t, t] })
    (base : Nat) (e : TypeId) (i : TypeInfo) (z : Value) (size bytes : Nat) (ht : P.underlying t = some (.slice e)) (hi : P.info? e = some i) (hz : i.zero = some z)
    (hsize : i.size = size) (hby : i.bytes = bytes) (hzs : z.cells.size = size) (hsz : 0 < size)
    (v : Value) (n : Nat) (xs : List Value) (hs : a.eval s = v) (hown : w.ownsRow base e size v n xs)
    (ad : Addr) (m c : Nat) (news : List Value) (hx : a.eval x = .slice (some ad) m c) (hl : news.length = m * size) (hnews : ∀ j u, news[j]? = some u → w.cell? (ad.add j) = some u) (h1 : ∀ u ∈ news, u.oneCell' = true)
    (hm : 0 < m) (h63 : n + m ≤ maxLen) (hbytes : (n + m) * bytes ≤ 140737488355328) (hbase : base ≤ w.heap.size)
    (h : ∀ g cap w', w'.ownsRow base e size (.slice (some ⟨g, 0, none⟩) (n + m) cap) (n + m) (xs ++ news) → Split w w' v n g cap → wpList P ops Q rest (a.put o.dst (.slice (some ⟨g, 0, none⟩) (n + m) cap)) w') : wpList P ops Q (o :: rest) a w :=
  wpList_plain hgd fun _ hK => wp_append_split w s x t ho base e i z size bytes ht hi hz hsize hby hzs hsz v n xs hs hown ad m c news hx hl hnews h1 hm h63 hbytes hbase fun g cap w' h2 h3 => hK _ _ (h g cap w' h2 h3)
/-- at a step of a region that draws its order -/
theorem step_append_split (w : World) {ops : Array Oper} {o : Oper} {a : Act} {K : Act → World → Prop} {Q : Exit → Act → World → Prop} {E : Prop} (hgd : o.guard = none) (s x : Operand) (t : TypeId)
    (ho : o.op = .call { callee := .builtin .append, args := #[s, x], argTypes := #[t, t] })
    (base : Nat) (e : TypeId) (i : TypeInfo) (z : Value) (size bytes : Nat) (ht : P.underlying t = some (.slice e)) (hi : P.info? e = some i) (hz : i.zero = some z)
    (hsize : i.size = size) (hby : i.bytes = bytes) (hzs : z.cells.size = size) (hsz : 0 < size)
    (v : Value) (n : Nat) (xs : List Value) (hs : a.eval s = v) (hown : w.ownsRow base e size v n xs)
    (ad : Addr) (m c : Nat) (news : List Value) (hx : a.eval x = .slice (some ad) m c) (hl : news.length = m * size) (hnews : ∀ j u, news[j]? = some u → w.cell? (ad.add j) = some u) (h1 : ∀ u ∈ news, u.oneCell' = true)
    (hm : 0 < m) (h63 : n + m ≤ maxLen) (hbytes : (n + m) * bytes ≤ 140737488355328) (hbase : base ≤ w.heap.size)
    (h : ∀ g cap w', w'.ownsRow base e size (.slice (some ⟨g, 0, none⟩) (n + m) cap) (n + m) (xs ++ news) → Split w w' v n g cap → K (a.put o.dst (.slice (some ⟨g, 0, none⟩) (n + m) cap)) w') :
    if Region.wanted o (yielded ops a.tmps) = true then Oper.wp P o a w K Q else E := by
  have hw : Region.wanted o (yielded ops a.tmps) = true := by simp [Region.wanted, hgd]
  rw [if_pos hw]
  exact wp_append_split w s x t ho base e i z size bytes ht hi hz hsize hby hzs hsz v n xs hs hown ad m c news hx hl hnews h1 hm h63 hbytes hbase h
end
end Go.Proofs.YtlneonmbhgppeaaGreatDoor
