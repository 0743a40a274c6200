/- A Book grows its lists of words. Condition: it holds below 50, none longer than 2^24. -/
import Derived.Test.YtlneonmbhgppeaaGreatDoorBe
namespace Go.Proofs.YtlneonmbhgppeaaGreatDoor
open Go.RowKit
set_option linter.unusedVariables false
/-- no other list lies where this one lies -/
def Alone (E : List Ent) (i : Nat) (long : Value) : Prop := ∀ (j : Nat) (f : Ent) (g : Nat), E[j]? = some f → f.has g → long.ownBlock = some g → j = i
section
variable {w w' : World} {base kb : Nat} {bv : Value} {E : List Ent}
theorem BW.append (h : BW w base kb bv E) {i m g cap : Nat} {e : Ent} {long : Value} {ys news : List Value} (he : E[i]? = some e) (hnil : e.long = .slice none 0 0) (hl0 : e.ln = 0) (hx0 : e.lxs = [])
    (hown : w.ownsRow base 51 4 long (e.n + m) (e.xs ++ ys)) (hal : Alone E i long) (hs : Split w w' long (e.n + m) g cap)
    (hown' : w'.ownsRow base 51 4 (.slice (some ⟨g, 0, none⟩) (e.n + m + 1) cap) (e.n + m + 1) (e.xs ++ ys ++ news)) :
    BW w' base kb bv E ∧ Alone E i (.slice (some ⟨g, 0, none⟩) (e.n + m + 1) cap) := by
  refine ⟨⟨?_, h.hb, ?_, ?_, h.ap⟩, ?_⟩
  · exact hs.blk h.bk (own_blk_ne hown h.bk (by decide))
  · exact hs.own h.row (fun k hk => own_ne h.row hown (by decide) k hk)
  · intro j x hx
    by_cases hj : j = i
    · subst hj
      rw [he] at hx
      injection hx with hx
      subst hx
      have hv := (h.lst j e he).1
      refine ⟨?_, by rw [hnil, hl0, hx0]; exact World.ownsRow_nil _ _ _ _⟩
      rcases hs with ⟨hlv, hgr⟩ | ⟨_, hgr⟩
      · by_cases hvg : e.v.ownBlock = some g
        · subst hlv
          rcases hv.2 with ⟨h3, _⟩ | ⟨g', c', cur, h3, _⟩
          · rw [h3] at hvg; simp [Value.ownBlock] at hvg
          · have hg' : g' = g := by rw [h3] at hvg; simpa [Value.ownBlock] using hvg
            subst hg'
            rw [h3] at hv ⊢
            have hc := own_cap hv hown (by omega)
            rw [List.append_assoc] at hown'
            exact own_part (m := m + 1) hv hown' hc
        · exact own_keep hv hgr hvg
      · exact hv.kept hgr (by cases e.v.ownBlock <;> simp)
    · have hne : ∀ y : Value, (y = x.v ∨ y = x.long) → ∀ k, y.ownBlock = some k → long.ownBlock ≠ some k := by
        intro y hy k hk hlk
        apply hj
        refine hal j x k hx ?_ hlk
        rcases hy with rfl | rfl
        · exact .inl hk
        · exact .inr hk
      exact ⟨hs.own (h.lst j x hx).1 (hne _ (.inl rfl)), hs.own (h.lst j x hx).2 (hne _ (.inr rfl))⟩
  · intro j f k hj hf hk
    have hk2 : g = k := by simpa [Value.ownBlock] using hk
    subst hk2
    rcases hs with ⟨hlv, _⟩ | ⟨hg, _⟩
    · exact hal j f g hj hf (by rw [hlv]; rfl)
    · exfalso
      have := h.lst j f hj
      rcases hf with hf | hf
      · have := own_lt this.1 g hf; omega
      · have := own_lt this.2 g hf; omega
theorem Alone.self (h : BW w base kb bv E) {i : Nat} {e : Ent} (he : E[i]? = some e) : Alone E i e.v := fun j f g hj hf hk => h.ap j i f e g hj he hf (.inl hk)
theorem BW.setLong {gb m cb : Nat} (h : BW w base kb (.slice (some ⟨gb, 0, none⟩) m cb) E) {i ln : Nat} {e : Ent} {long : Value} {lxs : List Value} (he : E[i]? = some e) (hm : m = E.length)
    (hown : w.ownsRow base 51 4 long ln lxs) (hal : Alone E i long) :
    BW (w.setCell ⟨gb, i * 3 + 1, none⟩ long) base kb (.slice (some ⟨gb, 0, none⟩) m cb) (E.set i ⟨e.v, e.n, e.xs, long, ln, lxs⟩) := by
  have hgr : w.grownBy (w.setCell ⟨gb, i * 3 + 1, none⟩ long) (some gb) := only_set (World.grownBy.refl w (some gb)) (.inl rfl) long
  have hkb : kb ≠ gb := fun e2 => own_blk_ne h.row h.bk (by decide) (by rw [e2]; rfl)
  subst hm
  refine ⟨?_, h.hb, ?_, ?_, ?_⟩
  · rw [List.length_set]; exact h.bk.grown hgr (by simp; exact hkb)
  · rw [List.length_set, ← rowsV_long E 1 i e ⟨e.v, e.n, e.xs, long, ln, lxs⟩ he rfl]
    exact (h.row.stored (i * 3 + 1) long).1
  · intro k x hx
    rcases set_get hx with ⟨rfl, rfl, _⟩ | ⟨hk, hx⟩
    · exact ⟨own_keep (h.lst k e he).1 hgr (fun e2 => own_ne (h.lst k e he).1 h.row (by decide) gb e2 rfl), own_keep hown hgr (fun e2 => own_ne hown h.row (by decide) gb e2 rfl)⟩
    · exact ⟨own_keep (h.lst k x hx).1 hgr (fun e2 => own_ne (h.lst k x hx).1 h.row (by decide) gb e2 rfl), own_keep (h.lst k x hx).2 hgr (fun e2 => own_ne (h.lst k x hx).2 h.row (by decide) gb e2 rfl)⟩
  · intro a b x y k hx hy hxk hyk
    rcases set_get hx with ⟨ha, hx2, _⟩ | ⟨ha, hx2⟩
    · rcases set_get hy with ⟨hb, hy2, _⟩ | ⟨hb, hy2⟩
      · rw [ha, hb]
      · subst hx2 ha
        rcases hxk with hxk | hxk
        · exact h.ap _ _ e y k he hy2 (.inl hxk) hyk
        · exact (hal b y k hy2 hyk hxk).symm
    · rcases set_get hy with ⟨hb, hy2, _⟩ | ⟨hb, hy2⟩
      · subst hy2 hb
        rcases hyk with hyk | hyk
        · exact h.ap _ _ x e k hx2 he hxk (.inl hyk)
        · exact hal a x k hx2 hxk hyk
      · exact h.ap a b x y k hx2 hy2 hxk hyk
end
/-- so many lists are grown -/
structure Grown (i : Nat) (E E' : List Ent) : Prop where
  len : E'.length = E.length
  at_ : ∀ (j : Nat) (e : Ent), E[j]? = some e → ∃ f : Ent, E'[j]? = some f ∧ f.v = e.v ∧ f.n = e.n ∧ f.xs = e.xs ∧ (j < i → f.ln = e.n + 40 ∧ f.lxs = e.xs ++ marksV (j + 1) 40) ∧ (i ≤ j → f = e)
end Go.Proofs.YtlneonmbhgppeaaGreatDoor
