/- A grid with a further border of holes: its cells are the old ones, shifted. Plain Lean, no walk here. -/
import Derived.Test.YtjiacdihfbbfjaaGrpM
namespace Go.Proofs.Ytjiacdihfbbfjaa
open Go.RowKit

/-- The place of a position in the wider grid. -/
def trP (w wide a c : Int) (x : Int) : Int := (x / w + c) * wide + x % w + a
def moreL (A : Nat) (cs : List Int) : List Int := cellsUpto A cs
theorem cells_cells (A : Nat) (l : List Int) : cellsUpto A (cellsUpto A l) = holesUpto A l := by
  unfold cellsUpto holesUpto
  refine List.filter_congr fun x hx => ?_
  rw [Bool.eq_iff_iff]
  simp [inL, List.mem_filter, hx]
theorem trP_split {w wide a c x : Int} (hw : 1 ≤ w) (ha : 0 ≤ a) (hb : a + w ≤ wide) : trP w wide a c x / wide = x / w + c ∧ trP w wide a c x % wide = x % w + a := by
  have q3 : 0 ≤ x % w := Int.emod_nonneg _ (by omega)
  have q4 : x % w < w := Int.emod_lt_of_pos _ (by omega)
  unfold trP
  have e : (x / w + c) * wide + x % w + a = (x % w + a) + (x / w + c) * wide := by omega
  rw [e, Int.add_mul_ediv_right _ _ (by omega), Int.add_mul_emod_self_right, Int.ediv_eq_zero_of_lt (by omega) (by omega), Int.emod_eq_of_lt (by omega) (by omega)]
  exact ⟨by omega, rfl⟩
theorem trP_lt {w wide a c x y : Int} (hw : 1 ≤ w) (ha : 0 ≤ a) (hb : a + w ≤ wide) (h : x < y) : trP w wide a c x < trP w wide a c y := by
  have e1 := Int.emod_add_mul_ediv x w
  have e2 := Int.emod_add_mul_ediv y w
  have q1 : 0 ≤ x % w := Int.emod_nonneg _ (by omega)
  have q2 : x % w < w := Int.emod_lt_of_pos _ (by omega)
  have q3 : 0 ≤ y % w := Int.emod_nonneg _ (by omega)
  have q4 : y % w < w := Int.emod_lt_of_pos _ (by omega)
  have hle : x / w ≤ y / w := Int.ediv_le_ediv (by omega) (by omega)
  unfold trP
  rcases Int.lt_or_eq_of_le hle with h1 | h1
  · have h2 : (x / w + c + 1) * wide ≤ (y / w + c) * wide := Int.mul_le_mul_of_nonneg_right (by omega) (by omega)
    have h3 : (x / w + c + 1) * wide = (x / w + c) * wide + wide := by rw [Int.add_mul, Int.one_mul]
    omega
  · rw [h1] at e1 ⊢
    omega
theorem trP_bd {w h wide high a c x : Int} (hw : 1 ≤ w) (ha : 0 ≤ a) (hb : a + w ≤ wide) (hc : 0 ≤ c) (hd : c + h ≤ high) (hx : 0 ≤ x ∧ x < w * h) : 0 ≤ trP w wide a c x ∧ trP w wide a c x < wide * high := by
  have q1 : 0 ≤ x % w := Int.emod_nonneg _ (by omega)
  have q2 : x % w < w := Int.emod_lt_of_pos _ (by omega)
  have q5 : 0 ≤ x / w := Int.ediv_nonneg hx.1 (by omega)
  have q6 : x / w < h := Int.ediv_lt_of_lt_mul (by omega) (by rw [Int.mul_comm]; exact hx.2)
  unfold trP
  have h1 : 0 ≤ (x / w + c) * wide := Int.mul_nonneg (by omega) (by omega)
  have h2 : (x / w + c + 1) * wide ≤ high * wide := Int.mul_le_mul_of_nonneg_right (by omega) (by omega)
  have h3 : (x / w + c + 1) * wide = (x / w + c) * wide + wide := by rw [Int.add_mul, Int.one_mul]
  have h4 : high * wide = wide * high := Int.mul_comm _ _
  omega
/-- The wider grid: what Make answers, and its moves. -/
theorem border {s w h : Int} {holes : List Int} {g : Grid} (hg : makeL s w h holes = some g) {a c wide high : Int} {A : Nat} (hA : wide * high = (A : Int)) (ha : 0 ≤ a) (hb : a + w ≤ wide) (hc : c = 0 ∨ c = 2) (hd : c + h ≤ high) (hwd : wide ≤ 16) (hhg : high ≤ 16) :
    ∃ g', makeL s wide high (moreL A (g.cells.map (trP w wide a c))) = some g' ∧ movesL g' = movesL g := by
  obtain ⟨hv, e1, e2, e3, e4⟩ := valid_make hg
  obtain ⟨d0, d1, d2, d3, d4⟩ := hv.dims
  rw [e1] at d0
  rw [e2] at d1 d2
  rw [e3] at d3 d4
  have hbd : ∀ x ∈ g.cells.map (trP w wide a c), 0 ≤ x ∧ x < (A : Int) := fun x hx => by
    obtain ⟨y, hy, rfl⟩ := List.mem_map.1 hx
    have := hv.mem hy
    rw [e2, e3] at this
    rw [← hA]; exact trP_bd d1 ha hb (by omega) hd this
  have hpw : (g.cells.map (trP w wide a c)).Pairwise (· < ·) := List.Pairwise.map _ (fun x y hxy => trP_lt d1 ha hb hxy) hv.incr
  obtain ⟨cs, hcs⟩ : ∃ cs, g.cells.map (trP w wide a c) = cs := ⟨_, rfl⟩
  have hcl : cs.length = g.cells.length := by rw [← hcs, List.length_map]
  rw [hcs] at hbd hpw ⊢
  have hpos := hv.pos
  have hdims : okDims s wide high := ⟨d0, by omega, hwd, by omega, hhg⟩
  have hoks : okHoles cs (A : Int) := ⟨hbd, hpw⟩
  have hhe := holesUpto_eq hoks
  have hln := holes_cells_len A cs
  rw [hhe] at hln
  have hokm : okHoles (moreL A cs) (wide * high) := ⟨fun x hx => by
    have := mem_ints.1 (List.mem_filter.1 hx).1
    rw [hA]; exact this, (ints_incr A).filter _⟩
  have hfew : ((moreL A cs).length : Int) < wide * high := by rw [hA]; unfold moreL; omega
  have hmk : makeL s wide high (moreL A cs) = some ⟨s, wide, high, moreL A cs, cs⟩ := by
    unfold makeL
    rw [if_pos ⟨hdims, hokm, hfew⟩]
    have : (wide * high).toNat = A := by omega
    rw [this]
    unfold moreL
    rw [cells_cells, hhe]
  refine ⟨_, hmk, ?_⟩
  obtain ⟨hv', _⟩ := valid_make hmk
  have hT : ∃ T : Int × Int, ∀ i, i < g.cells.length → plc ⟨s, wide, high, moreL A cs, cs⟩ i = addP (plc g i) T := by
    have hx : ∀ i, i < g.cells.length → cs[i]?.getD 0 = trP w wide a c (g.cells[i]?.getD 0) := fun i hi => by
      rw [← hcs]; simp [hi]
    by_cases hs : s = 2
    · refine ⟨(a - c / 2, c), fun i hi => ?_⟩
      unfold plc placeOf addP
      simp only
      rw [e1, e2, hx i hi, if_pos hs]
      generalize g.cells[i]?.getD 0 = x
      obtain ⟨k1, k2⟩ := trP_split (x := x) (c := c) d1 ha hb
      rw [k1, k2]
      refine Prod.ext ?_ ?_ <;> simp only [if_pos hs] <;> omega
    · refine ⟨(a, c), fun i hi => ?_⟩
      unfold plc placeOf addP
      simp only
      rw [e1, e2, hx i hi, if_neg hs]
      generalize g.cells[i]?.getD 0 = x
      obtain ⟨k1, k2⟩ := trP_split (x := x) (c := c) d1 ha hb
      rw [k1, k2]
      refine Prod.ext ?_ ?_ <;> simp only [if_neg hs]
  obtain ⟨T, hT⟩ := hT
  exact moves_shift hv hv' (T := T) e1.symm hcl hT
end Go.Proofs.Ytjiacdihfbbfjaa
