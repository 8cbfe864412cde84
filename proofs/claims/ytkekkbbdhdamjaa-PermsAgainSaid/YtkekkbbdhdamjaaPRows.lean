/- Slices of lists that are appended to one another: what the new row holds, and in which blocks its lists lie. Plain words. -/
import Derived.Test.YtkekkbbdhdamjaaPFind
import Derived.WalkKit
import Derived.WalkSpells
import Derived.WalkLawsBesides
import Derived.Deep.LoopGhost
import Derived.Deep.QuietTactic
import Derived.BigQuiet
import Derived.StillTailTactics
import Derived.Lib.Hide
import Derived.Outline
import Derived.Lib.QuietBelow
namespace Go.Proofs.Ytkekkbbdhdamjaa
open Go.RowKit

/-- The lists of a slice of lists lie in blocks of which P holds. -/
def RowsAll (w : World) (P : Nat → Prop) (a : Option Addr) (n : Nat) : Prop := ∀ b o, a = some ⟨b, o, none⟩ → ∀ (i : Nat) ai ni ci, i < n → w.cell? ⟨b, o + i, none⟩ = some (.slice ai ni ci) → 0 < ni → ∀ q, (Value.slice ai ni ci).ownBlock = some q → P q
theorem RowsAll.below {w w' : World} {P : Nat → Prop} {a : Option Addr} {n c : Nat} {ll : List (List Int)} (h : RowsAll w P a n) (hr : Rows w a n c ll) (hb : Below w.heap.size w w') : RowsAll w' P a n := by
  intro b o e i ai ni ci hi hc h0 q hq
  obtain ⟨b', o', e', hl⟩ := hr.at' (by omega)
  rw [e] at e'
  obtain ⟨rfl, rfl⟩ : b = b' ∧ o = o' := by simpa using e'
  rw [hb.cell (p := ⟨b, o + i, none⟩) hl] at hc
  exact h b o e i ai ni ci hi hc h0 q hq
/-- The lists lie below the heap's end. -/
theorem Rows.all {w : World} {a : Option Addr} {n c : Nat} {ll : List (List Int)} (h : Rows w a n c ll) : RowsAll w (fun q => q < w.heap.size) a n := by
  intro b o e i ai ni ci hi hc h0 q hq
  subst e
  obtain ⟨l, hl⟩ := h.has hi
  obtain ⟨ai', ni', ci', hc', hI⟩ := h.get hl
  rw [hc] at hc'
  injection hc' with hc'
  injection hc' with h1 h2 h3
  subst h1 h2 h3
  obtain ⟨b2, o2, rfl, hlt⟩ := hI.at' h0
  simp [Value.ownBlock] at hq
  omega
theorem RowsAll.imp {w : World} {P Q : Nat → Prop} {a : Option Addr} {n : Nat} (h : RowsAll w P a n) (hPQ : ∀ q, P q → Q q) : RowsAll w Q a n := fun b o e i ai ni ci hi hc h0 q hq => hPQ q (h b o e i ai ni ci hi hc h0 q hq)

/-- Lists of slots and of what they hold, in blocks of which P holds. -/
def Olds (w : World) (P : Nat → Prop) (us : List Value) (ll : List (List Int)) : Prop := us.length = ll.length ∧ ∀ (i : Nat) (u : Value) (l : List Int), us[i]? = some u → ll[i]? = some l → ∃ a n c, u = .slice a n c ∧ Ints w a n c l ∧ ∀ q, 0 < n → u.ownBlock = some q → P q
theorem Olds.elems {w : World} {P : Nat → Prop} {row : Option Nat} : ∀ {us : List Value} {ll : List (List Int)}, Olds w P us ll → (∀ q, row = some q → ¬ P q) → Elems w row us ll
  | [], [], _, _ => .nil
  | [], _ :: _, h, _ => by have := h.1; simp at this
  | _ :: _, [], h, _ => by have := h.1; simp at this
  | u :: us, l :: ll, h, hr => by
    refine .cons ?_ (Olds.elems (us := us) (ll := ll) ⟨by have := h.1; simpa using this, fun i u' l' hu hl => h.2 (i + 1) u' l' (by simpa using hu) (by simpa using hl)⟩ hr)
    obtain ⟨a, n, c, rfl, hI, hq⟩ := h.2 0 u l rfl rfl
    refine ⟨a, n, c, rfl, hI, fun h0 e => ?_⟩
    obtain ⟨b, o, rfl, _⟩ := hI.at' h0
    exact hr b e.symm (hq b h0 rfl)
theorem Olds.one' {w : World} {P : Nat → Prop} {us : List Value} {ll : List (List Int)} (h : Olds w P us ll) : ∀ u ∈ us, u.oneCell' = true := by
  intro u hu
  obtain ⟨i, hi, e⟩ := List.getElem_of_mem hu
  obtain ⟨a, n, c, rfl, _⟩ := h.2 i u (ll[i]'(by rw [← h.1]; exact hi)) (by rw [List.getElem?_eq_getElem hi, e]) (List.getElem?_eq_getElem _)
  rfl
theorem Rows.olds {w : World} {P : Nat → Prop} {b o n c : Nat} {ll : List (List Int)} (h : Rows w (some ⟨b, o, none⟩) n c ll) (hP : RowsAll w P (some ⟨b, o, none⟩) n) :
    ∃ us : List Value, us.length = n ∧ (∀ (i : Nat) (u : Value), us[i]? = some u → w.cell? ⟨b, o + i, none⟩ = some u) ∧ Olds w P us ll := by
  have key : ∀ i, i < n → ∃ u, w.cell? ⟨b, o + i, none⟩ = some u ∧ ∀ l, ll[i]? = some l → ∃ a n c, u = .slice a n c ∧ Ints w a n c l ∧ ∀ q, 0 < n → u.ownBlock = some q → P q := by
    intro i hi
    obtain ⟨l, hl⟩ := h.has hi
    obtain ⟨ai, ni, ci, e, hI⟩ := h.get hl
    exact ⟨_, e, fun l' hl' => by rw [hl] at hl'; injection hl' with hl'; subst hl'; exact ⟨_, _, _, rfl, hI, fun q h0 hq => hP b o rfl i _ _ _ hi e h0 q hq⟩⟩
  refine ⟨(List.range n).map fun i => (w.cell? ⟨b, o + i, none⟩).getD undef, by simp, ?_, by simp [h.len], ?_⟩
  · intro i u hu
    by_cases hi : i < n
    · obtain ⟨v, hv, _⟩ := key i hi
      simp [hi, hv] at hu
      rw [hv, hu]
    · simp [hi] at hu
  · intro i u l hu hl
    by_cases hi : i < n
    · obtain ⟨v, hv, h2⟩ := key i hi
      simp [hi, hv] at hu
      subst hu
      exact h2 l hl
    · simp [hi] at hu
theorem Olds.below {w w' : World} {P : Nat → Prop} {us : List Value} {ll : List (List Int)} (h : Olds w P us ll) (hb : Below w.heap.size w w') : Olds w' P us ll :=
  ⟨h.1, fun i u l hu hl => let ⟨a, n, c, e, hI, hq⟩ := h.2 i u l hu hl; ⟨a, n, c, e, hI.below hb, hq⟩⟩
theorem Olds.grown {w w' : World} {P : Nat → Prop} {us : List Value} {ll : List (List Int)} {row : Option Nat} (h : Olds w P us ll) (hg : w.grownBy w' row) (hr : ∀ q, row = some q → ¬ P q) : Olds w' P us ll :=
  ⟨h.1, fun i u l hu hl => by
    obtain ⟨a, n, c, rfl, hI, hq⟩ := h.2 i u l hu hl
    refine ⟨a, n, c, rfl, hI.grown hg fun h0 e => ?_, hq⟩
    obtain ⟨b, o, rfl, _⟩ := hI.at' h0
    exact hr b e.symm (hq b h0 rfl)⟩
theorem Olds.take {w : World} {P : Nat → Prop} {us : List Value} {ll : List (List Int)} (h : Olds w P us ll) (k : Nat) : Olds w P (us.take k) (ll.take k) :=
  ⟨by simp [h.1], fun i u l hu hl => by
    rw [List.getElem?_take] at hu hl
    by_cases hi : i < k
    · rw [if_pos hi] at hu hl; exact h.2 i u l hu hl
    · rw [if_neg hi] at hu; cases hu⟩
theorem Olds.drop {w : World} {P : Nat → Prop} {us : List Value} {ll : List (List Int)} (h : Olds w P us ll) (k : Nat) : Olds w P (us.drop k) (ll.drop k) :=
  ⟨by simp [h.1], fun i u l hu hl => by
    rw [List.getElem?_drop] at hu hl; exact h.2 _ u l hu hl⟩
theorem Olds.append {w : World} {P : Nat → Prop} {us vs : List Value} {ll mm : List (List Int)} (h : Olds w P us ll) (h2 : Olds w P vs mm) : Olds w P (us ++ vs) (ll ++ mm) :=
  ⟨by simp [h.1, h2.1], fun i u l hu hl => by
    by_cases hi : i < us.length
    · rw [List.getElem?_append_left hi] at hu
      rw [List.getElem?_append_left (by rw [← h.1]; exact hi)] at hl
      exact h.2 i u l hu hl
    · rw [List.getElem?_append_right (by omega)] at hu
      rw [List.getElem?_append_right (by rw [← h.1]; omega), ← h.1] at hl
      exact h2.2 _ u l hu hl⟩
theorem Olds.one {w : World} {P : Nat → Prop} {a : Option Addr} {n c : Nat} {l : List Int} (h : Ints w a n c l) (hP : ∀ q, 0 < n → (Value.slice a n c).ownBlock = some q → P q) : Olds w P [.slice a n c] [l] :=
  ⟨rfl, fun i u l' hu hl => by
    cases i with
    | zero =>
      simp at hu hl
      subst hu hl
      exact ⟨a, n, c, rfl, h, hP⟩
    | succ i => simp at hu⟩
theorem Olds.nil (w : World) (P : Nat → Prop) : Olds w P [] [] := ⟨rfl, fun i u l h => by simp at h⟩
theorem Olds.imp {w : World} {P Q : Nat → Prop} {us : List Value} {ll : List (List Int)} (h : Olds w P us ll) (hPQ : ∀ q, P q → Q q) : Olds w Q us ll :=
  ⟨h.1, fun i u l hu hl => let ⟨a, n, c, e, hI, hq⟩ := h.2 i u l hu hl; ⟨a, n, c, e, hI, fun q h0 e => hPQ q (hq q h0 e)⟩⟩
/-- A new row of lists that lie in blocks of which P holds. -/
def ORows (w : World) (base : Nat) (P : Nat → Prop) (e : TypeId) (v : Value) (ll : List (List Int)) : Prop := ∃ us, w.ownsRow base e 1 v ll.length us ∧ Olds w P us ll
theorem ORows.below {w w' : World} {base : Nat} {P : Nat → Prop} {e : TypeId} {v : Value} {ll : List (List Int)} (h : ORows w base P e v ll) (hb : Below w.heap.size w w') : ORows w' base P e v ll :=
  let ⟨us, h1, h2⟩ := h; ⟨us, ownsRow_below' h1 hb, h2.below hb⟩
theorem ORows.lt {w : World} {base : Nat} {P : Nat → Prop} {e : TypeId} {v : Value} {ll : List (List Int)} (h : ORows w base P e v ll) : ∀ q, v.ownBlock = some q → base ≤ q ∧ q < w.heap.size := let ⟨_, h1, _⟩ := h; h1.lt
theorem ORows.imp {w : World} {base : Nat} {P Q : Nat → Prop} {e : TypeId} {v : Value} {ll : List (List Int)} (h : ORows w base P e v ll) (hPQ : ∀ q, P q → Q q) : ORows w base Q e v ll := let ⟨us, h1, h2⟩ := h; ⟨us, h1, h2.imp hPQ⟩
theorem ORows.mono {w : World} {base base' : Nat} {P : Nat → Prop} {e : TypeId} {v : Value} {ll : List (List Int)} (h : ORows w base P e v ll) (hb : base' ≤ base) : ORows w base' P e v ll := let ⟨us, h1, h2⟩ := h; ⟨us, ownsRow_mono' h1 hb, h2⟩
/-- As a slice to be read. -/
theorem ORows.rows {w : World} {base : Nat} {P : Nat → Prop} {e : TypeId} {v : Value} {ll : List (List Int)} (h : ORows w base P e v ll) : ∃ a c, v = .slice a ll.length c ∧ Rows w a ll.length c ll ∧ RowsAll w P a ll.length := by
  obtain ⟨us, h1, h2⟩ := h
  have hlen : us.length = ll.length := h2.1
  rcases h1.2 with ⟨rfl, h0⟩ | ⟨g, cap, cur, rfl, _, hgb, hn, hm, _⟩
  · have : ll = [] := List.eq_nil_of_length_eq_zero h0
    subst this
    exact ⟨none, 0, rfl, Rows.nil w, fun b o e => by cases e⟩
  · have hcell : ∀ i, i < ll.length → w.cell? ⟨g, 0 + i, none⟩ = us[i]? := fun i hi => by rw [Nat.zero_add, h1.cellAt i (by simpa using hi)]
    refine ⟨_, cap, rfl, ⟨rfl, hn, hm, fun _ => ⟨g, 0, rfl, (Array.getElem?_eq_some_iff.1 hgb).1⟩, fun b o eq i hi => ?_⟩, fun b o eq i ai ni ci hi hc h0 q hq => ?_⟩
    · obtain ⟨rfl, rfl⟩ : g = b ∧ 0 = o := by simpa using eq
      obtain ⟨ai, ni, ci, e1, hI, _⟩ := h2.2 i us[i] ll[i] (List.getElem?_eq_getElem (by omega)) (List.getElem?_eq_getElem hi)
      refine ⟨ai, ni, ci, ?_, by rw [List.getElem?_eq_getElem hi]; exact hI⟩
      rw [hcell i hi, List.getElem?_eq_getElem (by omega), e1]
    · obtain ⟨rfl, rfl⟩ : g = b ∧ 0 = o := by simpa using eq
      obtain ⟨ai', ni', ci', e1, hI, hP⟩ := h2.2 i us[i] ll[i] (List.getElem?_eq_getElem (by omega)) (List.getElem?_eq_getElem hi)
      rw [hcell i hi, List.getElem?_eq_getElem (by omega), e1] at hc
      injection hc with hc
      injection hc with x1 x2 x3
      subst x1 x2 x3
      exact hP q h0 (by rw [e1]; exact hq)
theorem Rows.grown {w w' : World} {row : Option Nat} {a : Option Addr} {n c : Nat} {ll : List (List Int)} {P : Nat → Prop} (h : Rows w a n c ll) (hP : RowsAll w P a n) (hg : w.grownBy w' row) (hne : 0 < n → (Value.slice a n c).ownBlock ≠ row) (hr : ∀ q, row = some q → ¬ P q) : Rows w' a n c ll ∧ RowsAll w' P a n := by
  have hcell : ∀ b o, a = some ⟨b, o, none⟩ → ∀ i, i < n → w'.cell? ⟨b, o + i, none⟩ = w.cell? ⟨b, o + i, none⟩ := by
    intro b o e i hi
    obtain ⟨b', o', e', hl⟩ := h.at' (by omega)
    rw [e] at e'
    obtain ⟨rfl, rfl⟩ : b = b' ∧ o = o' := by simpa using e'
    have hne' : some b ≠ row := by
      have := hne (by omega)
      subst e; simpa [Value.ownBlock] using this
    exact World.cell?_of_block (w := w) (hg.block b hl hne')
  refine ⟨⟨h.len, h.cap, h.mx, fun hn => let ⟨b, o, e, hl⟩ := h.at' hn; ⟨b, o, e, Nat.lt_of_lt_of_le hl hg.size⟩, fun b o e i hi => ?_⟩, fun b o e i ai ni ci hi hc h0 q hq => ?_⟩
  · obtain ⟨ai, ni, ci, hc, hI⟩ := h.row b o e i hi
    refine ⟨ai, ni, ci, by rw [hcell b o e i hi]; exact hc, hI.grown hg fun h0 e2 => ?_⟩
    obtain ⟨b2, o2, rfl, _⟩ := hI.at' h0
    exact hr b2 e2.symm (hP b o e i _ _ _ hi hc h0 b2 rfl)
  · rw [hcell b o e i hi] at hc
    exact hP b o e i ai ni ci hi hc h0 q hq
end Go.Proofs.Ytkekkbbdhdamjaa
