/- The opening of a sheet: its program's numbers are machine numbers. -/
import Derived.Test.YtehoidohallfcaaGreatDoorRowX
import Derived.Test.YtehoidohallfcaaGreatDoorRdHx
namespace Go.Proofs.YtehoidohallfcaaGreatDoor
open Go.ChangeShapes Go.WideShapes Go.ChangeAt Go.RowKit Go.Deep
set_option maxRecDepth 100000
theorem wfI_range {x : Int} (h : wfI x) : -9223372036854775808 ≤ x ∧ x ≤ 9223372036854775807 := by
 unfold wfI at h
 simp [Lit.wf, IntKind.min, IntKind.max, IntKind.signed, IntKind.bits] at h
 omega
section
variable {H : Type} {enc : TypeId × Value → H} {W : World} {base : Nat} {spare : Nat → Bool} {held : Bool} {fuel : Nat} {x : DataW H × List MemPlace}
theorem leaf_wordR {cs : List Value} (h : DataW.trod enc Tryz.prog W base spare held fuel 91 cs = some x) : ∃ k : Wd, cs = encW k ∧ (-9223372036854775808 ≤ k.n ∧ k.n ≤ 9223372036854775807) := by
 obtain ⟨xs, n, _, _, hc, hl, hg⟩ := DataW.trod_struct Tryz.underlying91 h
 rw [cells_word] at hc
 match cs, hc with
 | [c0, c1], _ =>
  (obtain ⟨z0, rfl, o0⟩ := getI (i := 0) Tryz.underlying3 (by rw [hl]; decide) (by simpa [cells_int] using hg 0 _ rfl))
  (obtain ⟨z1, rfl, o1⟩ := getI (i := 1) Tryz.underlying3 (by rw [hl]; decide) (by simpa [cells_int] using hg 1 _ rfl))
  exact ⟨⟨z0, z1⟩, rfl, wfI_range o1⟩
end
section
variable {H : Type} {enc : TypeId × Value → H} {W : World}
theorem leaf_sheetR {fuel : Nat} {cs : List Value} {x : DataW H × List MemPlace} (h : DataW.trod enc Tryz.prog W 0 (fun _ => true) true fuel 25 cs = some x) : ∃ S : Sp, cs = (#[.int .i64 S.sh.cs, .int .i64 S.sh.ps, .slice S.la S.ln S.lc, .slice S.ca S.cn S.cc, .slice S.pa S.pn S.pc, .slice S.ra S.rn S.rc] : Array Value).toList ∧ S.In W ∧ WdR S.sh.pg := by
 obtain ⟨xs, n, _, _, hc, hl, hg⟩ := DataW.trod_struct Tryz.underlying25 h
 rw [cells_sheet] at hc
 match cs, hc with
 | [c0, c1, c2, c3, c4, c5], _ =>
  (obtain ⟨z0, rfl, o0⟩ := getI (i := 0) Tryz.underlying3 (by rw [hl]; decide) (by simpa [cells_int] using hg 0 _ rfl))
  (obtain ⟨z1, rfl, o1⟩ := getI (i := 1) Tryz.underlying3 (by rw [hl]; decide) (by simpa [cells_int] using hg 1 _ rfl))
  obtain ⟨y2, hy2⟩ := getX (i := 2) (t := 22) (cs := [c2]) (n := n) (by rw [hl]; decide) (by simpa [cells_ints] using hg 2 _ rfl)
  obtain ⟨y3, hy3⟩ := getX (i := 3) (t := 22) (cs := [c3]) (n := n) (by rw [hl]; decide) (by simpa [cells_ints] using hg 3 _ rfl)
  obtain ⟨y4, hy4⟩ := getX (i := 4) (t := 23) (cs := [c4]) (n := n) (by rw [hl]; decide) (by simpa [cells_words] using hg 4 _ rfl)
  obtain ⟨y5, hy5⟩ := getX (i := 5) (t := 22) (cs := [c5]) (n := n) (by rw [hl]; decide) (by simpa [cells_ints] using hg 5 _ rfl)
  obtain ⟨a2, n2, k2, l2, e2, i2⟩ := leaf_L hy2
  obtain ⟨a3, n3, k3, l3, e3, i3⟩ := leaf_L hy3
  obtain ⟨a4, n4, k4, l4, e4, i4, r4⟩ := leaf_SL (ok := fun k : Wd => -9223372036854775808 ≤ k.n ∧ k.n ≤ 9223372036854775807) encW_len (by decide) Tryz.underlying23 cells_word leaf_wordR hy4
  obtain ⟨a5, n5, k5, l5, e5, i5⟩ := leaf_L hy5
  simp only [List.cons.injEq, and_true] at e2 e3 e4 e5
  subst e2 e3 e4 e5
  exact ⟨⟨⟨z0, z1, l2, l3, l4, l5⟩, a2, n2, k2, a3, n3, k3, a4, n4, k4, a5, n5, k5⟩, rfl, ⟨i2, i3, i4, i5⟩, r4⟩
end
section
variable {H : Type} {enc : TypeId × Value → H} {W : World} {v : Value} {d : DataW H} {p : List MemPlace} {base : Nat}
theorem open_sheetR (hval : Value.okWide Tryz.prog W .any base 25 v) (hd : DataW.Trod enc Tryz.prog W 0 (fun _ => true) true 25 v d p) : ∃ S : Sp, v = .agg #[.int .i64 S.sh.cs, .int .i64 S.sh.ps, .slice S.la S.ln S.lc, .slice S.ca S.cn S.cc, .slice S.pa S.pn S.pc, .slice S.ra S.rn S.rc] ∧ S.In W ∧ WdR S.sh.pg := by
 obtain ⟨cs, rfl, _⟩ := okWide_struct Tryz.underlying25 hval
 obtain ⟨fuel, hf⟩ := hd
 obtain ⟨S, h1, h2, h3⟩ := leaf_sheetR hf
 refine ⟨S, ?_, h2, h3⟩
 rw [show cs = #[.int .i64 S.sh.cs, .int .i64 S.sh.ps, .slice S.la S.ln S.lc, .slice S.ca S.cn S.cc, .slice S.pa S.pn S.pc, .slice S.ra S.rn S.rc] from Array.toList_inj.1 (by simpa [Value.cells] using h1)]
end
end Go.Proofs.YtehoidohallfcaaGreatDoor
