/- line.Text. -/
import Derived.Test.YtfnabpmdjfejbaaDoorJText4
namespace Go.Proofs.YtfnabpmdjfejbaaDoor
set_option linter.unusedSimpArgs false
set_option linter.unusedVariables false
open Go.RowKit Go.Lib

def textE (c : CallD) : Int := if c.kind < 1 ∨ 8 < c.kind then 14 else if namedB c.kind = true ∧ idS c.id = false then 2 else 0
def wordsC (c : CallD) : List ByteArray :=
  verbB c.kind :: (if c.kind = 1 then [c.id, dec c.tick, dec c.val] else if c.kind = 2 then [dec c.tick] else if c.kind = 4 then [dec c.handle] else if c.kind = 5 then [dec c.handle, c.id, dec c.tick, dec c.val]
    else if c.kind = 6 then [c.id, ⟨(polText c.pol).toArray⟩] else if c.kind = 7 then [c.id] else [])
def textS (c : CallD) : ByteArray := if textE c = 0 then joinS (wordsC c) else ⟨#[]⟩
theorem textE_cases (c : CallD) : (c.kind < 1 ∨ 8 < c.kind) ∨ c.kind = 1 ∨ c.kind = 2 ∨ c.kind = 3 ∨ c.kind = 4 ∨ c.kind = 5 ∨ c.kind = 6 ∨ c.kind = 7 ∨ c.kind = 8 := by omega
theorem ltext_any (c : CallD) (w : World) (hc : c.ok) (ht : Tab w) : Calls Tryd.prog 23 #[callV c] w (TextSays w (textS c) (textE c)) := by
  obtain ⟨k, id, tick, val, handle, mn, mx, tg, tol, win, hold⟩ := c
  obtain ⟨h1, h2, h3, h4, h5, h6⟩ := hc
  dsimp only at h1 h2 h3 h4 h5 h6
  by_cases l1 : k < 1
  · have e : textE ⟨k, id, tick, val, handle, ⟨mn, mx, tg, tol, win, hold⟩⟩ = 14 := if_pos (.inl l1)
    unfold textS
    rw [e, if_neg (by decide)]
    exact ltext_lo k l1 id tick val handle mn mx tg tol win hold w
  by_cases l8 : 8 < k
  · have e : textE ⟨k, id, tick, val, handle, ⟨mn, mx, tg, tol, win, hold⟩⟩ = 14 := if_pos (.inr l8)
    unfold textS
    rw [e, if_neg (by decide)]
    exact ltext_hi k l1 l8 id tick val handle mn mx tg tol win hold w
  have hk : k = 1 ∨ k = 2 ∨ k = 3 ∨ k = 4 ∨ k = 5 ∨ k = 6 ∨ k = 7 ∨ k = 8 := by omega
  rcases hk with rfl | rfl | rfl | rfl | rfl | rfl | rfl | rfl
  · cases hid : idS id with
    | true =>
      have e : textE (⟨1, id, tick, val, handle, ⟨mn, mx, tg, tol, win, hold⟩⟩ : CallD) = 0 := by unfold textE; rw [if_neg (by dsimp only; omega), if_neg (by dsimp only; rw [hid]; simp)]
      unfold textS
      rw [e, if_pos rfl]
      exact ltext_1 id tick val handle mn mx tg tol win hold w h2 ht h3 h4 h5 h6 hid
    | false =>
      have e : textE (⟨1, id, tick, val, handle, ⟨mn, mx, tg, tol, win, hold⟩⟩ : CallD) = 2 := by unfold textE; rw [if_neg (by dsimp only; omega), if_pos ⟨rfl, hid⟩]
      unfold textS
      rw [e, if_neg (by decide)]
      exact ltext_bad_1 id tick val handle mn mx tg tol win hold w h2 ht h3 h4 h5 h6 hid
  · have e : textE (⟨2, id, tick, val, handle, ⟨mn, mx, tg, tol, win, hold⟩⟩ : CallD) = 0 := by unfold textE; rw [if_neg (by dsimp only; omega), if_neg (by rintro ⟨h, _⟩; cases h)]
    unfold textS
    rw [e, if_pos rfl]
    exact ltext_2 id tick val handle mn mx tg tol win hold w h2 ht h3 h4 h5 h6
  · have e : textE (⟨3, id, tick, val, handle, ⟨mn, mx, tg, tol, win, hold⟩⟩ : CallD) = 0 := by unfold textE; rw [if_neg (by dsimp only; omega), if_neg (by rintro ⟨h, _⟩; cases h)]
    unfold textS
    rw [e, if_pos rfl]
    exact ltext_3 id tick val handle mn mx tg tol win hold w h2 ht h3 h4 h5 h6
  · have e : textE (⟨4, id, tick, val, handle, ⟨mn, mx, tg, tol, win, hold⟩⟩ : CallD) = 0 := by unfold textE; rw [if_neg (by dsimp only; omega), if_neg (by rintro ⟨h, _⟩; cases h)]
    unfold textS
    rw [e, if_pos rfl]
    exact ltext_4 id tick val handle mn mx tg tol win hold w h2 ht h3 h4 h5 h6
  · cases hid : idS id with
    | true =>
      have e : textE (⟨5, id, tick, val, handle, ⟨mn, mx, tg, tol, win, hold⟩⟩ : CallD) = 0 := by unfold textE; rw [if_neg (by dsimp only; omega), if_neg (by dsimp only; rw [hid]; simp)]
      unfold textS
      rw [e, if_pos rfl]
      exact ltext_5 id tick val handle mn mx tg tol win hold w h2 ht h3 h4 h5 h6 hid
    | false =>
      have e : textE (⟨5, id, tick, val, handle, ⟨mn, mx, tg, tol, win, hold⟩⟩ : CallD) = 2 := by unfold textE; rw [if_neg (by dsimp only; omega), if_pos ⟨rfl, hid⟩]
      unfold textS
      rw [e, if_neg (by decide)]
      exact ltext_bad_5 id tick val handle mn mx tg tol win hold w h2 ht h3 h4 h5 h6 hid
  · cases hid : idS id with
    | true =>
      have e : textE (⟨6, id, tick, val, handle, ⟨mn, mx, tg, tol, win, hold⟩⟩ : CallD) = 0 := by unfold textE; rw [if_neg (by dsimp only; omega), if_neg (by dsimp only; rw [hid]; simp)]
      unfold textS
      rw [e, if_pos rfl]
      exact ltext_6 id tick val handle mn mx tg tol win hold w h2 ht h3 h4 h5 h6 hid
    | false =>
      have e : textE (⟨6, id, tick, val, handle, ⟨mn, mx, tg, tol, win, hold⟩⟩ : CallD) = 2 := by unfold textE; rw [if_neg (by dsimp only; omega), if_pos ⟨rfl, hid⟩]
      unfold textS
      rw [e, if_neg (by decide)]
      exact ltext_bad_6 id tick val handle mn mx tg tol win hold w h2 ht h3 h4 h5 h6 hid
  · cases hid : idS id with
    | true =>
      have e : textE (⟨7, id, tick, val, handle, ⟨mn, mx, tg, tol, win, hold⟩⟩ : CallD) = 0 := by unfold textE; rw [if_neg (by dsimp only; omega), if_neg (by dsimp only; rw [hid]; simp)]
      unfold textS
      rw [e, if_pos rfl]
      exact ltext_7 id tick val handle mn mx tg tol win hold w h2 ht h3 h4 h5 h6 hid
    | false =>
      have e : textE (⟨7, id, tick, val, handle, ⟨mn, mx, tg, tol, win, hold⟩⟩ : CallD) = 2 := by unfold textE; rw [if_neg (by dsimp only; omega), if_pos ⟨rfl, hid⟩]
      unfold textS
      rw [e, if_neg (by decide)]
      exact ltext_bad_7 id tick val handle mn mx tg tol win hold w h2 ht h3 h4 h5 h6 hid
  · have e : textE (⟨8, id, tick, val, handle, ⟨mn, mx, tg, tol, win, hold⟩⟩ : CallD) = 0 := by unfold textE; rw [if_neg (by dsimp only; omega), if_neg (by rintro ⟨h, _⟩; cases h)]
    unfold textS
    rw [e, if_pos rfl]
    exact ltext_8 id tick val handle mn mx tg tol win hold w h2 ht h3 h4 h5 h6
end Go.Proofs.YtfnabpmdjfejbaaDoor
