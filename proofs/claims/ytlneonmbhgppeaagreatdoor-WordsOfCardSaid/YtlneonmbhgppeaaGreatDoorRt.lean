/- Equal words are the same (SameWords); an owned row of words, as the printed texts read it. Plain. -/
import Derived.Test.YtlneonmbhgppeaaGreatDoorRs
import Derived.Test.YtlneonmbhgppeaaGreatDoorPWordsOfx7
namespace Go.Proofs.YtlneonmbhgppeaaGreatDoor
open Go.RowKit Go.Proofs.YtlneonmbhgppeaaGreatDoorW.PrintWords Go.Proofs.YtlneonmbhgppeaaGreatDoor.PWordsOf
set_option linter.unusedVariables false
namespace Rp
theorem same_l (l : List S51) (hl : l.length < 1099511627776) : ∀ (n i k : Nat), l.length - i = n → i ≤ l.length → n < k → cartouchelaw01_SameWords.l0 k l l (i : Int) = some true := by
  intro n
  induction n with
  | zero =>
    intro i k hn hi hk
    obtain ⟨k, rfl⟩ : ∃ m, k = m + 1 := ⟨k - 1, by omega⟩
    rw [cartouchelaw01_SameWords.l0, if_neg (by omega)]
  | succ n ih =>
    intro i k hn hi hk
    obtain ⟨k, rfl⟩ : ∃ m, k = m + 1 := ⟨k - 1, by omega⟩
    have := ih (i + 1) k (by omega) (by omega) (by omega)
    simp only [Int.natCast_add, Int.natCast_one] at this
    rw [cartouchelaw01_SameWords.l0, if_pos (by omega), if_pos (by omega), if_pos (by omega), if_neg (by simp), w64 _ (by omega) (by omega)]
    exact this
theorem same_eq (l : List S51) (hl : l.length < 1099511627776) : cartouchelaw01_SameWords.f (l.length + 1) l l = some true := by
  unfold cartouchelaw01_SameWords.f
  rw [if_pos rfl]
  exact same_l l hl l.length 0 (l.length + 1) (by omega) (by omega) (by omega)
theorem wordsV_get (ws : List Word) : ∀ (j : Nat) (x : Word), ws[j]? = some x → ∀ i, i < 4 → (wordsV ws)[j * 4 + i]? = (wordV x)[i]? := by
  induction ws with
  | nil => intro j x h; simp at h
  | cons y r ih =>
    intro j x h i hi
    have hy : (wordV y).length = 4 := rfl
    have e : wordsV (y :: r) = wordV y ++ wordsV r := rfl
    rw [e]
    cases j with
    | zero =>
      simp at h
      subst h
      rw [List.getElem?_append_left (by omega)]
      congr 1
      omega
    | succ j =>
      simp at h
      rw [List.getElem?_append_right (by omega), hy]
      have e2 : (j + 1) * 4 + i - 4 = j * 4 + i := by omega
      rw [e2]
      exact ih j x h i hi
theorem own_C {w : World} {base n c : Nat} {A : Option Addr} {ws : List Word} (h : w.ownsRow base 51 4 (.slice A n c) n (wordsV ws)) (hn : n = ws.length) : Kd.C k51 w A n (ws.map toS) ∧ n ≤ c := by
  have h0 := h
  rcases h.2 with ⟨hv, h1⟩ | ⟨g, c', cur, hv, _, _, h1, h2, _⟩
  · injection hv with hA hn2 hc
    refine ⟨⟨by simp [hn], by omega, fun h => by omega⟩, by omega⟩
  · injection hv with hA _ hc
    subst hA hc
    refine ⟨⟨by simp [hn], by unfold maxLen at h2; omega, fun _ => ⟨_, rfl, ?_⟩⟩, h1⟩
    intro j p hp
    rw [List.getElem?_map] at hp
    obtain ⟨x, hx, rfl⟩ := Option.map_eq_some_iff.1 hp
    refine ⟨wordV x, rfl, k51_mk w (toS x), ?_⟩
    intro i u hu
    have hi : i < 4 := by
      rcases Nat.lt_or_ge i 4 with h3 | h3
      · exact h3
      · rw [List.getElem?_eq_none (by simpa [wordV] using h3)] at hu; cases hu
    have hj : j < ws.length := by
      rcases Nat.lt_or_ge j ws.length with h3 | h3
      · exact h3
      · rw [List.getElem?_eq_none h3] at hx; cases hx
    have e : (⟨g, 0, none⟩ : Addr).add (j * 4 + i) = ⟨g, j * 4 + i, none⟩ := add_plain g _
    show w.cell? ((⟨g, 0, none⟩ : Addr).add (j * 4 + i)) = some u
    rw [e, h0.cellAt (j * 4 + i) (by omega), wordsV_get ws j x hx i hi]
    exact hu
end Rp
end Go.Proofs.YtlneonmbhgppeaaGreatDoor
