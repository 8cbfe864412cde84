/- That the program's types are laid out, in parts: the whole outgrows the kernel. -/
import Derived.Test.YtehoidohallfcaaGreatDoorRuX
import Derived.ProofKit
import Derived.Test.YtehoidohallfcaaGreatDoorRows
import Derived.Deep.Matrix
import Derived.Stop.LaidErr
namespace Go.Proofs.YtehoidohallfcaaGreatDoor
open Go
theorem laid_size : Tryz.prog.types.size = 762 := by kernel_rfl
theorem laid_g : Tryz.prog.globals.all (fun g => decide (g.type < 762)) = true := by kernel_rfl
theorem laid_f : Tryz.prog.funcs.all (fun f => f.params.all fun t => decide (t < 762)) = true := by kernel_rfl
theorem laid_0 : (List.range' 0 20).all (rowFine Tryz.prog) = true := by kernel_rfl
theorem laid_20 : (List.range' 20 20).all (rowFine Tryz.prog) = true := by kernel_rfl
theorem laid_40 : (List.range' 40 20).all (rowFine Tryz.prog) = true := by kernel_rfl
theorem laid_60 : (List.range' 60 20).all (rowFine Tryz.prog) = true := by kernel_rfl
theorem laid_80 : (List.range' 80 20).all (rowFine Tryz.prog) = true := by kernel_rfl
theorem laid_100 : (List.range' 100 20).all (rowFine Tryz.prog) = true := by kernel_rfl
theorem laid_120 : (List.range' 120 20).all (rowFine Tryz.prog) = true := by kernel_rfl
theorem laid_140 : (List.range' 140 20).all (rowFine Tryz.prog) = true := by kernel_rfl
theorem laid_160 : (List.range' 160 20).all (rowFine Tryz.prog) = true := by kernel_rfl
theorem laid_180 : (List.range' 180 20).all (rowFine Tryz.prog) = true := by kernel_rfl
theorem laid_200 : (List.range' 200 20).all (rowFine Tryz.prog) = true := by kernel_rfl
theorem laid_220 : (List.range' 220 20).all (rowFine Tryz.prog) = true := by kernel_rfl
theorem laid_240 : (List.range' 240 20).all (rowFine Tryz.prog) = true := by kernel_rfl
theorem laid_260 : (List.range' 260 20).all (rowFine Tryz.prog) = true := by kernel_rfl
theorem laid_280 : (List.range' 280 20).all (rowFine Tryz.prog) = true := by kernel_rfl
theorem laid_300 : (List.range' 300 20).all (rowFine Tryz.prog) = true := by kernel_rfl
theorem laid_320 : (List.range' 320 20).all (rowFine Tryz.prog) = true := by kernel_rfl
theorem laid_340 : (List.range' 340 20).all (rowFine Tryz.prog) = true := by kernel_rfl
theorem laid_360 : (List.range' 360 20).all (rowFine Tryz.prog) = true := by kernel_rfl
theorem laid_380 : (List.range' 380 20).all (rowFine Tryz.prog) = true := by kernel_rfl
theorem laid_400 : (List.range' 400 20).all (rowFine Tryz.prog) = true := by kernel_rfl
theorem laid_420 : (List.range' 420 20).all (rowFine Tryz.prog) = true := by kernel_rfl
theorem laid_440 : (List.range' 440 20).all (rowFine Tryz.prog) = true := by kernel_rfl
theorem laid_460 : (List.range' 460 20).all (rowFine Tryz.prog) = true := by kernel_rfl
theorem laid_480 : (List.range' 480 20).all (rowFine Tryz.prog) = true := by kernel_rfl
theorem laid_500 : (List.range' 500 20).all (rowFine Tryz.prog) = true := by kernel_rfl
theorem laid_520 : (List.range' 520 20).all (rowFine Tryz.prog) = true := by kernel_rfl
theorem laid_540 : (List.range' 540 20).all (rowFine Tryz.prog) = true := by kernel_rfl
theorem laid_560 : (List.range' 560 20).all (rowFine Tryz.prog) = true := by kernel_rfl
theorem laid_580 : (List.range' 580 20).all (rowFine Tryz.prog) = true := by kernel_rfl
theorem laid_600 : (List.range' 600 20).all (rowFine Tryz.prog) = true := by kernel_rfl
theorem laid_620 : (List.range' 620 20).all (rowFine Tryz.prog) = true := by kernel_rfl
theorem laid_640 : (List.range' 640 20).all (rowFine Tryz.prog) = true := by kernel_rfl
theorem laid_660 : (List.range' 660 20).all (rowFine Tryz.prog) = true := by kernel_rfl
theorem laid_680 : (List.range' 680 20).all (rowFine Tryz.prog) = true := by kernel_rfl
theorem laid_700 : (List.range' 700 20).all (rowFine Tryz.prog) = true := by kernel_rfl
theorem laid_720 : (List.range' 720 20).all (rowFine Tryz.prog) = true := by kernel_rfl
theorem laid_740 : (List.range' 740 20).all (rowFine Tryz.prog) = true := by kernel_rfl
theorem laid_760 : (List.range' 760 2).all (rowFine Tryz.prog) = true := by kernel_rfl
theorem all_two {p : Nat → Bool} {a m : Nat} (n : Nat) (h : (List.range' a m).all p = true) (h2 : (List.range' (a + m) n).all p = true) : (List.range' a (m + n)).all p = true := by
 rw [← List.range'_append_1, List.all_append, h, h2]; rfl
theorem laid_all : (List.range' 0 762).all (rowFine Tryz.prog) = true := (all_two 742 laid_0 (all_two 722 laid_20 (all_two 702 laid_40 (all_two 682 laid_60 (all_two 662 laid_80 (all_two 642 laid_100 (all_two 622 laid_120 (all_two 602 laid_140 (all_two 582 laid_160 (all_two 562 laid_180 (all_two 542 laid_200 (all_two 522 laid_220 (all_two 502 laid_240 (all_two 482 laid_260 (all_two 462 laid_280 (all_two 442 laid_300 (all_two 422 laid_320 (all_two 402 laid_340 (all_two 382 laid_360 (all_two 362 laid_380 (all_two 342 laid_400 (all_two 322 laid_420 (all_two 302 laid_440 (all_two 282 laid_460 (all_two 262 laid_480 (all_two 242 laid_500 (all_two 222 laid_520 (all_two 202 laid_540 (all_two 182 laid_560 (all_two 162 laid_580 (all_two 142 laid_600 (all_two 122 laid_620 (all_two 102 laid_640 (all_two 82 laid_660 (all_two 62 laid_680 (all_two 42 laid_700 (all_two 22 laid_720 (all_two 2 laid_740 laid_760))))))))))))))))))))))))))))))))))))))
theorem row_laid : laidOutB Tryz.prog = true := by
 unfold laidOutB
 rw [laid_size, List.range_eq_range', laid_all, laid_g, laid_f]
 rfl
end Go.Proofs.YtehoidohallfcaaGreatDoor
/- From a law's contract to its row: sheets, results and faults opened; the post of a law that leaves all that was there; the table out of the laid variables. -/
namespace Go.Proofs.YtehoidohallfcaaGreatDoor
open Go.ChangeShapes Go.WideShapes Go.ChangeAt Go.RowKit Go.Deep
theorem bt {a b : Bool} (ha : a = true) (hb : b = true) : (a && b) = true := by rw [ha, hb]; rfl
theorem row_own : ownKnob Tryz.prog.godebug = none := by kernel_rfl
set_option maxRecDepth 100000
def wfI (x : Int) : Prop := (Lit.int .i64 x).wf = true
section
variable {H : Type} {enc : TypeId × Value → H} {W : World} {base : Nat} {spare : Nat → Bool} {held : Bool} {fuel : Nat} {x : DataW H × List MemPlace}
theorem getI {xs : List (DataW H × List MemPlace)} {n i : Nat} {t : TypeId} {v : Value} (hu : Tryz.prog.underlying t = some (.int .i64)) (hl : i < xs.length) (h : DataW.trod enc Tryz.prog W base spare held n t [v] = xs[i]?) : ∃ z, v = .int .i64 z ∧ wfI z := by
 rw [List.getElem?_eq_getElem hl] at h
 obtain ⟨z, h1, _, h2⟩ := DataW.trod_int hu h
 exact ⟨z, by simpa using h1, h2⟩
theorem cells_int : Tryz.prog.cellsOf 3 = 1 := by kernel_rfl
theorem cells_ints : Tryz.prog.cellsOf 22 = 1 := by kernel_rfl
theorem cells_words : Tryz.prog.cellsOf 23 = 1 := by kernel_rfl
theorem cells_bool : Tryz.prog.cellsOf 4 = 1 := by kernel_rfl
theorem cells_word : Tryz.prog.cellsOf 91 = 2 := by kernel_rfl
theorem cells_range : Tryz.prog.cellsOf 51 = 2 := by kernel_rfl
theorem cells_rs : Tryz.prog.cellsOf 53 = 6 := by kernel_rfl
theorem cells_ft : Tryz.prog.cellsOf 48 = 5 := by kernel_rfl
theorem cells_sheet : Tryz.prog.cellsOf 25 = 6 := by kernel_rfl
theorem getX {xs : List (DataW H × List MemPlace)} {i : Nat} {n : Nat} {t : TypeId} {cs : List Value} (hl : i < xs.length) (h : DataW.trod enc Tryz.prog W base spare held n t cs = xs[i]?) : ∃ y, DataW.trod enc Tryz.prog W base spare held n t cs = some y := ⟨_, h.trans (List.getElem?_eq_getElem hl)⟩
theorem leaf_range {cs : List Value} (h : DataW.trod enc Tryz.prog W base spare held fuel 51 cs = some x) : ∃ a b : Int, cs = [.int .i64 a, .int .i64 b] := by
 obtain ⟨xs, n, _, _, hc, hl, hg⟩ := DataW.trod_struct Tryz.underlying51 h
 rw [cells_range] at hc
 match cs, hc with
 | [c0, c1], _ =>
  (obtain ⟨z0, rfl, o0⟩ := getI (i := 0) Tryz.underlying3 (by rw [hl]; decide) (by simpa [cells_int] using hg 0 _ rfl))
  (obtain ⟨z1, rfl, o1⟩ := getI (i := 1) Tryz.underlying3 (by rw [hl]; decide) (by simpa [cells_int] using hg 1 _ rfl))
  exact ⟨z0, z1, rfl⟩
theorem leaf_rs {cs : List Value} (h : DataW.trod enc Tryz.prog W base spare held fuel 53 cs = some x) : ∃ f : Rs, cs = encRs f ∧ True := by
 obtain ⟨xs, n, _, _, hc, hl, hg⟩ := DataW.trod_struct Tryz.underlying53 h
 rw [cells_rs] at hc
 match cs, hc with
 | [c0, c1, c2, c3, c4, c5], _ =>
  obtain ⟨z, hz⟩ := getX (i := 3) (t := 51) (cs := [c3, c4]) (n := n) (by rw [hl]; decide) (by simpa [cells_range] using hg 3 _ rfl)
  obtain ⟨a, b, es⟩ := leaf_range hz
  simp only [List.cons.injEq, and_true] at es
  obtain ⟨rfl, rfl⟩ := es
  (obtain ⟨z0, rfl, o0⟩ := getI (i := 0) Tryz.underlying3 (by rw [hl]; decide) (by simpa [cells_int] using hg 0 _ rfl))
  (obtain ⟨z1, rfl, o1⟩ := getI (i := 1) Tryz.underlying3 (by rw [hl]; decide) (by simpa [cells_int] using hg 1 _ rfl))
  (obtain ⟨z2, rfl, o2⟩ := getI (i := 2) Tryz.underlying3 (by rw [hl]; decide) (by simpa [cells_int] using hg 2 _ rfl))
  obtain ⟨y, hy⟩ := getX (i := 4) (t := 4) (cs := [c5]) (n := n) (by rw [hl]; decide) (by simpa [cells_bool] using hg 4 _ rfl)
  obtain ⟨q, hq, _⟩ := DataW.trod_bool Tryz.underlying4 hy
  simp only [List.cons.injEq, and_true] at hq
  subst hq
  exact ⟨⟨z0, z1, z2, a, b, q⟩, rfl, trivial⟩
end
section
variable {H : Type} {enc : TypeId × Value → H} {W : World}
theorem ints_of {a : Addr} {len cap : Nat} {zs : List Int} (hl : len ≤ cap) (hm : cap ≤ maxLen) (hz : zs.length = cap) (hc : ∀ i, i < zs.length → W.cell? (a.add i) = some (.int .i64 (zs.getD i 0))) : Ints W (some a) len cap (zs.take len) := by
 have spot : 0 < cap → ∃ b o, a = ⟨b, o, none⟩ ∧ b < W.heap.size := fun h => by
  obtain ⟨b, o, s⟩ := a
  have h0 := hc 0 (by omega)
  have hs : s = none := by simpa [Addr.add] using World.cell?_spot h0
  subst hs
  exact ⟨b, o, rfl, by have := World.block_lt_of_cell? _ _ h0; simpa [Addr.add] using this⟩
 refine ⟨by rw [List.length_take]; omega, hl, hm, fun hn => ?_, fun b o e i hi => ?_⟩
 · obtain ⟨b, o, rfl, hb⟩ := spot (by omega)
   exact ⟨b, o, rfl, hb⟩
 · obtain rfl := Option.some.inj e
   have h := hc i (by omega)
   rw [add_plain] at h
   rw [h]
   simp [List.getD, hi]
theorem leaf_L {fuel : Nat} {cs : List Value} {x : DataW H × List MemPlace} (hf : DataW.trod enc Tryz.prog W 0 (fun _ => true) true fuel 22 cs = some x) : ∃ a n c l, cs = [.slice a n c] ∧ Ints W a n c l := by
 rcases open_ints Tryz.underlying22 Tryz.underlying3 cells_int hf with ⟨hcs, _⟩ | ⟨a, len', cap', zs, hcs, _, hl, hm, hz, _, hcell, hwz⟩
 · exact ⟨none, 0, 0, [], hcs, Ints.nil W⟩
 · simp only [if_true] at hz
   exact ⟨_, _, _, _, hcs, ints_of hl hm hz hcell⟩
theorem leaf_SL {α : Type} {enc' : α → List Value} {k : Nat} {ok : α → Prop} (hk : ∀ x, (enc' x).length = k) (hk0 : 0 < k) {t e : TypeId} (ht : Tryz.prog.underlying t = some (.slice e)) (hC : Tryz.prog.cellsOf e = k)
 (hleaf : ∀ {n : Nat} {cs : List Value} {x : DataW H × List MemPlace}, DataW.trod enc Tryz.prog W 0 (fun _ => true) true n e cs = some x → ∃ f : α, cs = enc' f ∧ ok f)
 {fuel : Nat} {cs : List Value} {x : DataW H × List MemPlace} (hf : DataW.trod enc Tryz.prog W 0 (fun _ => true) true fuel t cs = some x) :
 ∃ a n c l, cs = [.slice a n c] ∧ SL enc' k W a n c l ∧ ∀ x ∈ l, ok x := by
 rcases open_slice ht hf with ⟨hcs, _⟩ | ⟨a, len, cap, m, n, D, Pl, hcs, hb, hl, hm, hmm, _, hi⟩
 · exact ⟨none, 0, 0, [], hcs, SL.nil _ _ W, by simp⟩
 · subst hcs
   simp only [if_true] at hmm
   subst hmm
   have hall : ∀ i, i < len → ∃ f : α, ok f ∧ ∀ j v, (enc' f)[j]? = some v → W.cell? (a.add (i * k + j)) = some v := by
    intro i hil
    obtain ⟨cs', hc, ht'⟩ := hi i (by omega)
    rw [hC] at hc
    obtain ⟨f, rfl, hok⟩ := hleaf ht'
    obtain ⟨_, hcl, hat⟩ := World.cells?_some hc
    refine ⟨f, hok, fun j v hv => ?_⟩
    have hj : j < k := by rw [← hk f]; exact (List.getElem?_eq_some_iff.1 hv).1
    rw [← Go.Deep.add_add, hat j hj]; exact hv
   obtain ⟨fs, hfl, hfs⟩ : ∃ fs : List α, fs.length = len ∧ ∀ i f, fs[i]? = some f → ok f ∧ ∀ j v, (enc' f)[j]? = some v → W.cell? (a.add (i * k + j)) = some v := by
    clear hi hf
    have : ∀ m, m ≤ len → ∃ fs : List α, fs.length = m ∧ ∀ i f, fs[i]? = some f → ok f ∧ ∀ j v, (enc' f)[j]? = some v → W.cell? (a.add (i * k + j)) = some v := by
     intro m
     induction m with
     | zero => exact fun _ => ⟨[], rfl, by simp⟩
     | succ m ih =>
      intro hm1
      obtain ⟨fs, h1, h2⟩ := ih (by omega)
      obtain ⟨f, h3, h4⟩ := hall m (by omega)
      refine ⟨fs ++ [f], by simp [h1], fun i g hg => ?_⟩
      by_cases hi : i < m
      · rw [List.getElem?_append_left (by omega)] at hg; exact h2 i g hg
      · have hi2 := (List.getElem?_eq_some_iff.1 hg).1
        have : i = m := by simp at hi2; omega
        subst this
        rw [List.getElem?_append_right (by omega), h1] at hg
        simp at hg; subst hg; exact ⟨h3, h4⟩
    exact this len (Nat.le_refl _)
   refine ⟨some a, len, _, fs, rfl, ⟨hfl, hl, hm, fun hn => ?_, fun b o e i x hx j v hv => ?_⟩, fun x hx => ?_⟩
   · obtain ⟨b, o, s⟩ := a
     obtain ⟨f, hf⟩ : ∃ f, fs[0]? = some f := ⟨_, List.getElem?_eq_getElem (by omega)⟩
     obtain ⟨v, hv⟩ : ∃ v, (enc' f)[0]? = some v := ⟨_, List.getElem?_eq_getElem (by rw [hk]; exact hk0)⟩
     have h0 := (hfs 0 f hf).2 0 v hv
     have hs : s = none := by simpa [Addr.add] using World.cell?_spot h0
     subst hs
     exact ⟨b, o, rfl, by have := World.block_lt_of_cell? _ _ h0; simpa [Addr.add] using this⟩
   · obtain rfl := Option.some.inj e
     have := (hfs i x hx).2 j v hv
     rw [add_plain] at this
     rw [Nat.add_assoc]; exact this
   · obtain ⟨i, hi⟩ := List.mem_iff_getElem?.1 hx
     exact (hfs i x hi).1
theorem leaf_ft {fuel : Nat} {cs : List Value} {x : DataW H × List MemPlace} (h : DataW.trod enc Tryz.prog W 0 (fun _ => true) true fuel 48 cs = some x) : ∃ f : Ft Value, cs = encFt f ∧ ∃ a n c, f.gr = .slice a n c := by
 obtain ⟨xs, n, _, _, hc, hl, hg⟩ := DataW.trod_struct Tryz.underlying48 h
 rw [cells_ft] at hc
 match cs, hc with
 | [c0, c1, c2, c3, c4], _ =>
  (obtain ⟨z0, rfl, o0⟩ := getI (i := 0) Tryz.underlying3 (by rw [hl]; decide) (by simpa [cells_int] using hg 0 _ rfl))
  (obtain ⟨z1, rfl, o1⟩ := getI (i := 1) Tryz.underlying3 (by rw [hl]; decide) (by simpa [cells_int] using hg 1 _ rfl))
  (obtain ⟨z2, rfl, o2⟩ := getI (i := 2) Tryz.underlying3 (by rw [hl]; decide) (by simpa [cells_int] using hg 2 _ rfl))
  (obtain ⟨z3, rfl, o3⟩ := getI (i := 3) Tryz.underlying3 (by rw [hl]; decide) (by simpa [cells_int] using hg 3 _ rfl))
  obtain ⟨y, hy⟩ := getX (i := 4) (t := 22) (cs := [c4]) (n := n) (by rw [hl]; decide) (by simpa [cells_ints] using hg 4 _ rfl)
  obtain ⟨a, m, c, l, he, _⟩ := leaf_L hy
  simp only [List.cons.injEq, and_true] at he
  subst he
  exact ⟨⟨z0, z1, z2, z3, _⟩, rfl, a, m, c, rfl⟩
theorem trodAll_below {P : Program} (hl : laidOutB P = true) {W' : World} (hb : Below W.heap.size W W') : ∀ {ts : List TypeId} {vs : List Value} {ds : List (DataW H)} {ps : List MemPlace}, ts.all (fun t => P.readableRec t && decide (t < P.types.size)) = true →
 DataW.TrodAll enc P W 0 (fun _ => true) true ts vs ds ps → (∀ x ∈ ps, x.block < W.heap.size) → DataW.TrodAll enc P W' 0 (fun b => decide (b < W.heap.size)) true ts vs ds ps
 | [], [], [], ps, _, h, _ => h
 | t :: ts, v :: vs, d :: ds, ps, hts, ⟨p, q, h1, h2, e⟩, hlt => by
  subst e
  simp only [List.all_cons, Bool.and_eq_true, decide_eq_true_eq] at hts
  exact ⟨p, q, Below.trod hl hts.1.1 hts.1.2 h1 hb (fun x hx => hlt x (List.mem_append.2 (.inl hx))), trodAll_below hl hb hts.2 h2 (fun x hx => hlt x (List.mem_append.2 (.inr hx))), rfl⟩
end
section
variable {H : Type} {enc : TypeId × Value → H} {P : Program} {w : World} {base : Nat} {spare : Nat → Bool} {held : Bool}
theorem trodAll_five {t t' t'' t3 t4 : TypeId} {args : Array Value} {ds : List (DataW H)} {ps : List MemPlace} (h : DataW.TrodAll enc P w base spare held [t, t', t'', t3, t4] args.toList ds ps) :
 ∃ v v' v'' v3 v4 d d' d'' d3 d4 p p' p'' p3 p4, args = #[v, v', v'', v3, v4] ∧ ds = [d, d', d'', d3, d4] ∧ ps = p ++ p' ++ p'' ++ p3 ++ p4 ∧ DataW.Trod enc P w base spare held t v d p ∧ DataW.Trod enc P w base spare held t' v' d' p' ∧ DataW.Trod enc P w base spare held t'' v'' d'' p'' ∧ DataW.Trod enc P w base spare held t3 v3 d3 p3 ∧ DataW.Trod enc P w base spare held t4 v4 d4 p4 := by
 obtain ⟨v, vs, d, ds', p, q, hargs, rfl, rfl, hd, hrest⟩ := trodAll_cons h
 obtain ⟨v', vs', d', ds'', p', q', rfl, rfl, rfl, hd', hrest'⟩ := trodAll_cons hrest
 obtain ⟨v'', vs'', d'', ds''', p'', q'', rfl, rfl, rfl, hd'', hrest''⟩ := trodAll_cons hrest'
 obtain ⟨v3, vs3, d3, ds3, p3, q3, rfl, rfl, rfl, hd3, hrest3⟩ := trodAll_cons hrest''
 obtain ⟨v4, vs4, d4, ds4, p4, q4, rfl, rfl, rfl, hd4, hrest4⟩ := trodAll_cons hrest3
 obtain ⟨rfl, rfl, rfl⟩ := trodAll_nil hrest4
 exact ⟨v, v', v'', v3, v4, d, d', d'', d3, d4, p, p', p'', p3, p4, by cases args; simp_all, rfl, by simp, hd, hd', hd'', hd3, hd4⟩
end
section
variable {H : Type} {enc : TypeId × Value → H} {W : World} {base : Nat} {spare : Nat → Bool} {held : Bool} {fuel : Nat} {x : DataW H × List MemPlace}
theorem law_post {fn : Func} {s : ChangeSpec} {W' : World} {args : Array Value} {ds gs : List (DataW H)} {before : List MemPlace} (hW : DataW.Whole enc Tryz.prog fn.params.toList s.vars false W args.toList ds gs before)
 (hvars : s.vars = []) (hres : fn.resultTypes = #[4]) (hts : fn.params.toList.all (fun t => Tryz.prog.readableRec t && decide (t < Tryz.prog.types.size)) = true)
 (hfn : s.fn H (ds ++ []) = { results := [.lit (.bool true)], args := ds }) (hb : Below W.heap.size W W') :
 s.post enc Tryz.prog fn false true false false W args (.bool true) W' := by
 have hW' := hW
 have hlt : ∀ x ∈ before, x.block < W.heap.size := fun x hx => by simpa using hW'.lt x hx
 obtain ⟨p, q, hA, hV, e, _, _⟩ := hW
 rw [hvars] at hV
 obtain ⟨rfl, rfl⟩ := trodVars_none hV
 rw [List.append_nil] at e
 subst e
 refine ⟨ds, [], before, [], before, [], hW', ?_, ?_, ?_, hb.frame _, fun h => by cases h⟩
 · rw [hfn, hres]; exact trodAll_mk1 (shut_bool Tryz.underlying4 true)
 · rw [hfn]; exact trodAll_below row_laid hb hts hA hlt
 · rw [hfn, hvars]; rfl
end
section
variable {H : Type} {enc : TypeId × Value → H} {W : World} {v : Value} {d : DataW H} {p : List MemPlace} {base : Nat}
theorem open_rss (hval : Value.okWide Tryz.prog W .any base 26 v) (hd : DataW.Trod enc Tryz.prog W 0 (fun _ => true) true 26 v d p) : ∃ a n c l, v = .slice a n c ∧ SL encRs 6 W a n c l := by
 obtain ⟨a0, n0, c0, rfl⟩ := okWide_slice Tryz.underlying26 hval
 obtain ⟨fuel, hf⟩ := hd
 obtain ⟨a, n, c, l, e, h, _⟩ := leaf_SL (ok := fun _ => True) encRs_len (by decide) Tryz.underlying26 cells_rs leaf_rs hf
 simp [Value.cells] at e
 obtain ⟨rfl, rfl, rfl⟩ := e
 exact ⟨_, _, _, l, rfl, h⟩
theorem open_fts (hval : Value.okWide Tryz.prog W .any base 27 v) (hd : DataW.Trod enc Tryz.prog W 0 (fun _ => true) true 27 v d p) : ∃ a n c l, v = .slice a n c ∧ SL encFt 5 W a n c l ∧ GrOk l := by
 obtain ⟨a0, n0, c0, rfl⟩ := okWide_slice Tryz.underlying27 hval
 obtain ⟨fuel, hf⟩ := hd
 obtain ⟨a, n, c, l, e, h, hg⟩ := leaf_SL (ok := fun f : Ft Value => ∃ a n c, f.gr = .slice a n c) encFt_len (by decide) Tryz.underlying27 cells_ft leaf_ft hf
 simp [Value.cells] at e
 obtain ⟨rfl, rfl, rfl⟩ := e
 exact ⟨_, _, _, l, rfl, h, hg⟩
end
end Go.Proofs.YtehoidohallfcaaGreatDoor
