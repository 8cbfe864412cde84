/- Grids in plain Lean: what Make returns. -/
import Derived.Test.YtjiacdihfbbfjaaRefX
namespace Go.Proofs.Ytjiacdihfbbfjaa
open Go.RowKit

structure Grid where
  shape : Int
  w : Int
  h : Int
  holes : List Int
  cells : List Int
def zeroGrid : Grid := ⟨0, 0, 0, [], []⟩
def okDims (s w h : Int) : Prop := (s = 1 ∨ s = 2) ∧ 1 ≤ w ∧ w ≤ 16 ∧ 1 ≤ h ∧ h ≤ 16
instance (s w h : Int) : Decidable (okDims s w h) := by unfold okDims; infer_instance
def okHoles (l : List Int) (A : Int) : Prop := (∀ x ∈ l, 0 ≤ x ∧ x < A) ∧ l.Pairwise (· < ·)
instance (l : List Int) (A : Int) : Decidable (okHoles l A) := by unfold okHoles; infer_instance
def ints (n : Nat) : List Int := (List.range n).map Int.ofNat
theorem ints_succ (n : Nat) : ints (n + 1) = ints n ++ [(n : Int)] := by unfold ints; rw [List.range_succ]; simp
theorem ints_len (n : Nat) : (ints n).length = n := by unfold ints; simp
theorem mem_ints {n : Nat} {x : Int} : x ∈ ints n ↔ 0 ≤ x ∧ x < n := by
  unfold ints; simp only [List.mem_map, List.mem_range]
  constructor
  · rintro ⟨k, hk, rfl⟩; exact ⟨by simp, by simp; omega⟩
  · rintro ⟨h1, h2⟩; exact ⟨x.toNat, by omega, by simp; omega⟩
theorem ints_incr (n : Nat) : (ints n).Pairwise (· < ·) := by
  induction n with
  | zero => simp [ints]
  | succ n ih =>
    rw [ints_succ, List.pairwise_append]
    refine ⟨ih, by simp, fun a ha b hb => ?_⟩
    rw [List.mem_singleton.1 hb]; exact (mem_ints.1 ha).2
/-- The holes, and the cells, among the first n positions. -/
def holesUpto (n : Nat) (l : List Int) : List Int := (ints n).filter fun x => inL l x
def cellsUpto (n : Nat) (l : List Int) : List Int := (ints n).filter fun x => !inL l x
theorem holesUpto_succ (n : Nat) (l : List Int) : holesUpto (n + 1) l = if inL l n then holesUpto n l ++ [(n : Int)] else holesUpto n l := by
  unfold holesUpto; rw [ints_succ, List.filter_append]; cases h : inL l n <;> simp [h]
theorem cellsUpto_succ (n : Nat) (l : List Int) : cellsUpto (n + 1) l = if inL l n then cellsUpto n l else cellsUpto n l ++ [(n : Int)] := by
  unfold cellsUpto; rw [ints_succ, List.filter_append]; cases h : inL l n <;> simp [h]
theorem holesUpto_le (n : Nat) (l : List Int) : (holesUpto n l).length ≤ n := by
  have := List.length_filter_le (fun x => inL l x) (ints n); rw [ints_len] at this; exact this
theorem cellsUpto_le (n : Nat) (l : List Int) : (cellsUpto n l).length ≤ n := by
  have := List.length_filter_le (fun x => !inL l x) (ints n); rw [ints_len] at this; exact this

/-- Two strictly increasing lists of the same elements are equal. -/
theorem incr_ext : ∀ {a b : List Int}, a.Pairwise (· < ·) → b.Pairwise (· < ·) → (∀ x, x ∈ a ↔ x ∈ b) → a = b
  | [], [], _, _, _ => rfl
  | [], y :: b, _, _, h => by have := (h y).2 (by simp); simp at this
  | x :: a, [], _, _, h => by have := (h x).1 (by simp); simp at this
  | x :: a, y :: b, ha, hb, h => by
    rw [List.pairwise_cons] at ha hb
    have hxy : x = y := by
      rcases List.mem_cons.1 ((h x).1 (by simp)) with e | e
      · exact e
      · rcases List.mem_cons.1 ((h y).2 (by simp)) with e' | e'
        · exact e'.symm
        · have h1 := ha.1 y e'; have h2 := hb.1 x e; omega
    subst hxy
    congr 1
    refine incr_ext ha.2 hb.2 fun z => ⟨fun hz => ?_, fun hz => ?_⟩
    · rcases List.mem_cons.1 ((h z).1 (by simp [hz])) with e | e
      · have := ha.1 z hz; omega
      · exact e
    · rcases List.mem_cons.1 ((h z).2 (by simp [hz])) with e | e
      · have := hb.1 z hz; omega
      · exact e
theorem holesUpto_eq {A : Nat} {l : List Int} (h : okHoles l A) : holesUpto A l = l := by
  refine incr_ext ((ints_incr A).filter _) h.2 fun x => ?_
  unfold holesUpto; rw [List.mem_filter, mem_ints]; simp only [inL, List.contains_iff_mem]
  exact ⟨fun hx => hx.2, fun hx => ⟨h.1 x hx, hx⟩⟩
theorem holes_cells_len (n : Nat) (l : List Int) : (holesUpto n l).length + (cellsUpto n l).length = n := by
  induction n with
  | zero => rfl
  | succ n ih => rw [holesUpto_succ, cellsUpto_succ]; cases inL l n <;> simp <;> omega
theorem cells_nil_iff {A : Nat} {l : List Int} (h : okHoles l A) : cellsUpto A l = [] ↔ ¬ l.length < A := by
  have h1 := holes_cells_len A l
  rw [holesUpto_eq h] at h1
  rw [← List.length_eq_zero_iff]; omega

/-- What Make returns. -/
def makeL (s w h : Int) (holes : List Int) : Option Grid :=
  if okDims s w h ∧ okHoles holes (w * h) ∧ (holes.length : Int) < w * h then some ⟨s, w, h, holes, cellsUpto (w * h).toNat holes⟩ else none
theorem makeL_dims {s w h : Int} {holes : List Int} (hd : ¬ okDims s w h) : makeL s w h holes = none := if_neg fun hh => hd hh.1
theorem makeL_holes {s w h : Int} {holes : List Int} (hd : ¬ okHoles holes (w * h)) : makeL s w h holes = none := if_neg fun hh => hd hh.2.1
theorem makeL_len {s w h : Int} {holes : List Int} (hd : ¬ (holes.length : Int) < w * h) : makeL s w h holes = none := if_neg fun hh => hd hh.2.2

/-- A grid as a value: five cells, the last two slices of ints. -/
def GridV (w : World) (v : Value) (g : Grid) : Prop := ∃ ah nh ch ac nc cc, v = .agg #[.int .i64 g.shape, .int .i64 g.w, .int .i64 g.h, .slice ah nh ch, .slice ac nc cc] ∧ Ints w ah nh ch g.holes ∧ Ints w ac nc cc g.cells
theorem GridV.below {w w' : World} {v : Value} {g : Grid} (h : GridV w v g) (hb : Below w.heap.size w w') : GridV w' v g :=
  let ⟨a, b, c, d, e, f, h1, h2, h3⟩ := h; ⟨a, b, c, d, e, f, h1, h2.below hb, h3.below hb⟩
/-- Not in a block that lay before. -/
def Fresh (base : Nat) (v : Value) : Prop := ∀ k, v.ownBlock = some k → base ≤ k
theorem Fresh.nil (base : Nat) : Fresh base (.slice none 0 0) := fun k e => by simp [Value.ownBlock] at e
/-- The same, its lists made by the call. -/
def GridF (w : World) (base : Nat) (v : Value) (g : Grid) : Prop := ∃ ah nh ch ac nc cc, v = .agg #[.int .i64 g.shape, .int .i64 g.w, .int .i64 g.h, .slice ah nh ch, .slice ac nc cc] ∧ Ints w ah nh ch g.holes ∧ Ints w ac nc cc g.cells ∧ Fresh base (.slice ah nh ch) ∧ Fresh base (.slice ac nc cc)
theorem GridF.v {w : World} {base : Nat} {v : Value} {g : Grid} (h : GridF w base v g) : GridV w v g := let ⟨a, b, c, d, e, f, h1, h2, h3, _⟩ := h; ⟨a, b, c, d, e, f, h1, h2, h3⟩
/-- Result: a grid, or the zero grid and ErrGrid. -/
def RetGridE (W : World) (og : Option Grid) (e : Ending) (w' : World) : Prop := ∃ v, e = .returned (.tuple #[v, .int .i64 (if og.isSome then 0 else 130)]) ∧ GridF w' W.heap.size v (og.getD zeroGrid) ∧ Below W.heap.size W w'
theorem zeroGrid_F (w : World) (base : Nat) : GridF w base (.agg #[.int .i64 0, .int .i64 0, .int .i64 0, .slice none 0 0, .slice none 0 0]) zeroGrid := ⟨_, _, _, _, _, _, rfl, Ints.nil w, Ints.nil w, Fresh.nil _, Fresh.nil _⟩
end Go.Proofs.Ytjiacdihfbbfjaa

