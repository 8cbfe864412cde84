/- Arguments of a law: a grid by value; an array of three bytes by value. -/
import Derived.Test.YtjiacdihfbbfjaaRow
import Derived.OpenShut
namespace Go.Proofs.Ytjiacdihfbbfjaa
open Go.ChangeShapes Go.WideShapes Go.ChangeAt Go.RowKit Go.Deep

section
variable {H : Type} {enc : TypeId × Value → H} {W : World}
set_option maxRecDepth 100000 in
theorem ints_trod {c : Value} {x : DataW H × List MemPlace} {fuel : Nat} (h : DataW.trod enc Try.prog W 0 (fun _ => true) true fuel 22 [c] = some x) : ∃ a n cp l, c = .slice a n cp ∧ Ints W a n cp l := by
  rcases open_ints Try.underlying22 Try.underlying3 row_cells3 h with ⟨hcs, _⟩ | ⟨a, len', cap', zs, hcs, _, hl, hm, hz, _, hcell, _⟩
  · injection hcs with hcs _
    exact ⟨none, 0, 0, [], hcs, Ints.nil W⟩
  · injection hcs with hcs _
    simp only [if_true] at hz
    exact ⟨_, _, _, _, hcs, ints_of hl hm hz hcell⟩
theorem int_trod {c : Value} {x : DataW H × List MemPlace} {fuel : Nat} (h : DataW.trod enc Try.prog W 0 (fun _ => true) true fuel 3 [c] = some x) : ∃ z, c = .int .i64 z := by
  obtain ⟨n, h1, _⟩ := DataW.trod_int Try.underlying3 h
  injection h1 with h1 _
  exact ⟨n, h1⟩
theorem byte_trod {c : Value} {x : DataW H × List MemPlace} {fuel : Nat} (h : DataW.trod enc Try.prog W 0 (fun _ => true) true fuel 5 [c] = some x) : ∃ z : Int, c = .int .u8 z ∧ 0 ≤ z ∧ z ≤ 255 := by
  obtain ⟨n, h1, _, h3⟩ := DataW.trod_int Try.underlying5 h
  injection h1 with h1 _
  have e1 : IntKind.u8.min = 0 := rfl
  have e2 : IntKind.u8.max = 255 := rfl
  have : 0 ≤ n ∧ n ≤ 255 := by simpa [Lit.wf, e1, e2] using h3
  exact ⟨n, h1, this.1, this.2⟩
theorem cells_grid : Try.prog.cellsOf 24 = 5 := by kernel_rfl
theorem cells_arr3 : Try.prog.cellsOf 25 = 3 := by kernel_rfl
theorem cells_byte : Try.prog.cellsOf 5 = 1 := by kernel_rfl
set_option maxRecDepth 100000 in
theorem open_G {v : Value} {d : DataW H} {p : List MemPlace} {base : Nat} (hval : Value.okWide Try.prog W .any base 24 v) (hd : DataW.Trod enc Try.prog W 0 (fun _ => true) true 24 v d p) :
    ∃ (g : Grid) (ah : Option Addr) (nh ch : Nat) (ac : Option Addr) (nc cc : Nat), v = .agg #[.int .i64 g.shape, .int .i64 g.w, .int .i64 g.h, .slice ah nh ch, .slice ac nc cc] ∧ Ints W ah nh ch g.holes ∧ Ints W ac nc cc g.cells := by
  obtain ⟨cs, rfl, hsz⟩ := okWide_struct Try.underlying24 hval
  rw [cells_grid] at hsz
  obtain ⟨l⟩ := cs
  match l, hsz with
  | [c0, c1, c2, c3, c4], _ =>
    obtain ⟨fuel, hf⟩ := hd
    obtain ⟨xs, n, _, _, _, hlen, hg⟩ := DataW.trod_struct Try.underlying24 hf
    match xs, hlen with
    | [y0, y1, y2, y3, y4], _ =>
      have g0 := hg 0 _ rfl
      have g1 := hg 1 _ rfl
      have g2 := hg 2 _ rfl
      have g3 := hg 3 _ rfl
      have g4 := hg 4 _ rfl
      simp [Value.cells, row_cells3, row_cells22] at g0 g1 g2 g3 g4
      obtain ⟨s, rfl⟩ := int_trod g0
      obtain ⟨w, rfl⟩ := int_trod g1
      obtain ⟨h, rfl⟩ := int_trod g2
      obtain ⟨ah, nh, ch, lh, rfl, hh⟩ := ints_trod g3
      obtain ⟨ac, nc, cc, lc, rfl, hc⟩ := ints_trod g4
      exact ⟨⟨s, w, h, lh, lc⟩, ah, nh, ch, ac, nc, cc, rfl, hh, hc⟩
set_option maxRecDepth 100000 in
theorem open_A3 {v : Value} {d : DataW H} {p : List MemPlace} {base : Nat} (hval : Value.okWide Try.prog W .any base 25 v) (hd : DataW.Trod enc Try.prog W 0 (fun _ => true) true 25 v d p) :
    ∃ x y z : Int, v = .agg #[.int .u8 x, .int .u8 y, .int .u8 z] ∧ (0 ≤ x ∧ x ≤ 255) ∧ (0 ≤ y ∧ y ≤ 255) ∧ (0 ≤ z ∧ z ≤ 255) := by
  obtain ⟨cs, rfl, hsz⟩ : ∃ cs, v = .agg cs ∧ cs.size = Try.prog.cellsOf 25 := by
    simp only [Value.okWide, Try.underlying25] at hval
    obtain ⟨cs, h1, h2, _⟩ := hval
    exact ⟨cs, h1, h2⟩
  rw [cells_arr3] at hsz
  obtain ⟨l⟩ := cs
  match l, hsz with
  | [c0, c1, c2], _ =>
    obtain ⟨fuel, hf⟩ := hd
    obtain ⟨xs, n, _, _, _, hlen, hg⟩ := DataW.trod_array Try.underlying25 hf
    match xs, hlen with
    | [y0, y1, y2], _ =>
      have g0 := hg 0 (by omega)
      have g1 := hg 1 (by omega)
      have g2 := hg 2 (by omega)
      simp [Value.cells, cells_byte] at g0 g1 g2
      obtain ⟨x, rfl, hx⟩ := byte_trod g0
      obtain ⟨y, rfl, hy⟩ := byte_trod g1
      obtain ⟨z, rfl, hz⟩ := byte_trod g2
      exact ⟨x, y, z, rfl, hx, hy, hz⟩
end
end Go.Proofs.Ytjiacdihfbbfjaa
