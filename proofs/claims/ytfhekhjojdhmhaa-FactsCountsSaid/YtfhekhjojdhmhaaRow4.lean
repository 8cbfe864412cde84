/- From a law's contract to its row: arguments opened as this seat's words, the post of a law that leaves all that was there. -/
import Derived.Test.YtfhekhjojdhmhaaRows
import Derived.Test.YtfhekhjojdhmhaaFMap
import Derived.Test.YtfhekhjojdhmhaaFAlk
import Derived.Deep.Matrix
import Derived.Deep.Slices
import Derived.ProofKit
namespace Go.Proofs.Ytfhekhjojdhmhaa
open Go.ChangeShapes Go.WideShapes Go.ChangeAt Go.RowKit Go.Deep

theorem row_own : ownKnob Try.prog.godebug = none := by kernel_rfl
theorem row_laid : laidOutB Try.prog = true := by kernel_rfl

set_option maxRecDepth 100000
def wfI (x : Int) : Prop := (Lit.int .i64 x).wf = true
def okF (f : Fact) : Prop := wfI f.kd ∧ wfI f.sb ∧ wfI f.ob ∧ wfI f.val ∧ wfI f.vf ∧ wfI f.vt ∧ wfI f.kn ∧ wfI f.no
theorem okF.key {f : Fact} (h : okF f) : okK f.key := ⟨h.1, h.2.1, h.2.2.1⟩
def okR (r : Rd) : Prop := wfI r.kd ∧ wfI r.sb ∧ wfI r.ob ∧ wfI r.fr ∧ wfI r.til

section
variable {H : Type} {enc : TypeId × Value → H} {W : World} {base : Nat} {spare : Nat → Bool} {held : Bool} {fuel : Nat} {x : DataW H × List MemPlace}

theorem getI {xs : List (DataW H × List MemPlace)} {n i : Nat} {t : TypeId} {v : Value} (hu : Try.prog.underlying t = some (.int .i64)) (hl : i < xs.length) (h : DataW.trod enc Try.prog W base spare held n t [v] = xs[i]?) : ∃ z, v = .int .i64 z ∧ wfI z := by
  rw [List.getElem?_eq_getElem hl] at h
  obtain ⟨z, h1, _, h2⟩ := DataW.trod_int hu h
  exact ⟨z, by simpa using h1, h2⟩

theorem cells_int : Try.prog.cellsOf 3 = 1 := by kernel_rfl
theorem cells_key : Try.prog.cellsOf 24 = 3 := by kernel_rfl
theorem cells_span : Try.prog.cellsOf 26 = 2 := by kernel_rfl
theorem cells_fact : Try.prog.cellsOf 28 = 8 := by kernel_rfl
theorem cells_read : Try.prog.cellsOf 54 = 5 := by kernel_rfl
theorem getX {xs : List (DataW H × List MemPlace)} {i : Nat} {n : Nat} {t : TypeId} {cs : List Value} (hl : i < xs.length) (h : DataW.trod enc Try.prog W base spare held n t cs = xs[i]?) : ∃ y, DataW.trod enc Try.prog W base spare held n t cs = some y := ⟨_, h.trans (List.getElem?_eq_getElem hl)⟩
theorem leaf_key {cs : List Value} (h : DataW.trod enc Try.prog W base spare held fuel 24 cs = some x) : ∃ k : Key, cs = encK k ∧ okK k := by
  obtain ⟨xs, n, _, _, hc, hl, hg⟩ := DataW.trod_struct Try.underlying24 h
  rw [cells_key] at hc
  match cs, hc with
  | [c0, c1, c2], _ =>
    (obtain ⟨z0, rfl, o0⟩ := getI (i := 0) Try.underlying3 (by rw [hl]; decide) (by simpa [cells_int] using hg 0 _ rfl))
    (obtain ⟨z1, rfl, o1⟩ := getI (i := 1) Try.underlying3 (by rw [hl]; decide) (by simpa [cells_int] using hg 1 _ rfl))
    (obtain ⟨z2, rfl, o2⟩ := getI (i := 2) Try.underlying3 (by rw [hl]; decide) (by simpa [cells_int] using hg 2 _ rfl))
    exact ⟨⟨z0, z1, z2⟩, rfl, o0, o1, o2⟩
theorem leaf_span {cs : List Value} (h : DataW.trod enc Try.prog W base spare held fuel 26 cs = some x) : ∃ a b : Int, cs = [.int .i64 a, .int .i64 b] ∧ wfI a ∧ wfI b := by
  obtain ⟨xs, n, _, _, hc, hl, hg⟩ := DataW.trod_struct Try.underlying26 h
  rw [cells_span] at hc
  match cs, hc with
  | [c0, c1], _ =>
    (obtain ⟨z0, rfl, o0⟩ := getI (i := 0) Try.underlying3 (by rw [hl]; decide) (by simpa [cells_int] using hg 0 _ rfl))
    (obtain ⟨z1, rfl, o1⟩ := getI (i := 1) Try.underlying3 (by rw [hl]; decide) (by simpa [cells_int] using hg 1 _ rfl))
    exact ⟨z0, z1, rfl, o0, o1⟩
theorem leaf_fact {cs : List Value} (h : DataW.trod enc Try.prog W base spare held fuel 28 cs = some x) : ∃ f : Fact, cs = encF f ∧ okF f := by
  obtain ⟨xs, n, _, _, hc, hl, hg⟩ := DataW.trod_struct Try.underlying28 h
  rw [cells_fact] at hc
  match cs, hc with
  | [c0, c1, c2, c3, c4, c5, c6, c7], _ =>
    obtain ⟨y, hy⟩ := getX (i := 0) (t := 24) (cs := [c0, c1, c2]) (n := n) (by rw [hl]; decide) (by simpa [cells_key] using hg 0 _ rfl)
    obtain ⟨k, ek, okk⟩ := leaf_key hy
    obtain ⟨z, hz⟩ := getX (i := 2) (t := 26) (cs := [c4, c5]) (n := n) (by rw [hl]; decide) (by simpa [cells_span] using hg 2 _ rfl)
    obtain ⟨a, b, es, oa, ob⟩ := leaf_span hz
    simp only [encK, List.cons.injEq, and_true] at ek es
    obtain ⟨rfl, rfl, rfl⟩ := ek
    obtain ⟨rfl, rfl⟩ := es
    (obtain ⟨z1, rfl, o1⟩ := getI (i := 1) Try.underlying3 (by rw [hl]; decide) (by simpa [cells_int] using hg 1 _ rfl))
    (obtain ⟨z3, rfl, o3⟩ := getI (i := 3) Try.underlying3 (by rw [hl]; decide) (by simpa [cells_int] using hg 3 _ rfl))
    (obtain ⟨z4, rfl, o4⟩ := getI (i := 4) Try.underlying3 (by rw [hl]; decide) (by simpa [cells_int] using hg 4 _ rfl))
    exact ⟨⟨k.kd, k.sb, k.ob, z1, a, b, z3, z4⟩, rfl, okk.1, okk.2.1, okk.2.2, o1, oa, ob, o3, o4⟩
theorem leaf_read {cs : List Value} (h : DataW.trod enc Try.prog W base spare held fuel 54 cs = some x) : ∃ r : Rd, cs = encR r ∧ okR r := by
  obtain ⟨xs, n, _, _, hc, hl, hg⟩ := DataW.trod_struct Try.underlying54 h
  rw [cells_read] at hc
  match cs, hc with
  | [c0, c1, c2, c3, c4], _ =>
    obtain ⟨y, hy⟩ := getX (i := 0) (t := 24) (cs := [c0, c1, c2]) (n := n) (by rw [hl]; decide) (by simpa [cells_key] using hg 0 _ rfl)
    obtain ⟨k, ek, okk⟩ := leaf_key hy
    simp only [encK, List.cons.injEq, and_true] at ek
    obtain ⟨rfl, rfl, rfl⟩ := ek
    (obtain ⟨z1, rfl, o1⟩ := getI (i := 1) Try.underlying3 (by rw [hl]; decide) (by simpa [cells_int] using hg 1 _ rfl))
    (obtain ⟨z3, rfl, o3⟩ := getI (i := 2) Try.underlying3 (by rw [hl]; decide) (by simpa [cells_int] using hg 2 _ rfl))
    exact ⟨⟨k.kd, k.sb, k.ob, z1, z3⟩, rfl, okk.1, okk.2.1, okk.2.2, o1, o3⟩

/-- A slice whose elements are of the type e, each of k cells that spell one of the words enc'. -/
theorem open_SL {α : Type} {enc' : α → List Value} {k : Nat} {ok : α → Prop} (hk : ∀ x, (enc' x).length = k) (hk0 : 0 < k) {t e : TypeId} (ht : Try.prog.underlying t = some (.slice e)) (hC : Try.prog.cellsOf e = k)
    (hleaf : ∀ {n : Nat} {cs : List Value} {x : DataW H × List MemPlace}, DataW.trod enc Try.prog W 0 (fun _ => true) true n e cs = some x → ∃ f : α, cs = enc' f ∧ ok f)
    {v : Value} {d : DataW H} {p : List MemPlace} {base : Nat} (hval : Value.okWide Try.prog W .any base t v) (hd : DataW.Trod enc Try.prog W 0 (fun _ => true) true t v d p) :
    ∃ a n c l, v = .slice a n c ∧ SL enc' k W a n c l ∧ ∀ x ∈ l, ok x := by
  obtain ⟨a0, len, cap, rfl⟩ := okWide_slice ht hval
  obtain ⟨fuel, hf⟩ := hd
  rcases open_slice ht hf with ⟨hcs, _⟩ | ⟨a, len', cap', m, n, D, Pl, hcs, hb, hl, hm, hmm, _, hi⟩
  · simp [Value.cells] at hcs
    obtain ⟨rfl, rfl, rfl⟩ := hcs
    exact ⟨none, 0, 0, [], rfl, SL.nil _ _ W, by simp⟩
  · simp [Value.cells] at hcs
    obtain ⟨rfl, rfl, rfl⟩ := hcs
    simp only [if_true] at hmm
    subst hmm
    have hall : ∀ i, i < len → ∃ f : α, ok f ∧ ∀ j v, (enc' f)[j]? = some v → W.cell? (a.add (i * k + j)) = some v := by
      intro i hil
      obtain ⟨cs', hc, ht'⟩ := hi i (by omega)
      rw [hC] at hc
      obtain ⟨f, rfl, hok⟩ := hleaf ht'
      obtain ⟨_, hcl, hat⟩ := World.cells?_some hc
      refine ⟨f, hok, fun j v hv => ?_⟩
      have hj : j < k := by rw [← hk f]; exact (List.getElem?_eq_some_iff.1 hv).1
      rw [← Go.Deep.add_add, hat j hj]; exact hv
    obtain ⟨fs, hfl, hfs⟩ : ∃ fs : List α, fs.length = len ∧ ∀ i f, fs[i]? = some f → ok f ∧ ∀ j v, (enc' f)[j]? = some v → W.cell? (a.add (i * k + j)) = some v := by
      clear hi hf hval
      have : ∀ m, m ≤ len → ∃ fs : List α, fs.length = m ∧ ∀ i f, fs[i]? = some f → ok f ∧ ∀ j v, (enc' f)[j]? = some v → W.cell? (a.add (i * k + j)) = some v := by
        intro m
        induction m with
        | zero => exact fun _ => ⟨[], rfl, by simp⟩
        | succ m ih =>
          intro hm1
          obtain ⟨fs, h1, h2⟩ := ih (by omega)
          obtain ⟨f, h3, h4⟩ := hall m (by omega)
          refine ⟨fs ++ [f], by simp [h1], fun i g hg => ?_⟩
          by_cases hi : i < m
          · rw [List.getElem?_append_left (by omega)] at hg; exact h2 i g hg
          · have hi2 := (List.getElem?_eq_some_iff.1 hg).1
            have : i = m := by simp at hi2; omega
            subst this
            rw [List.getElem?_append_right (by omega), h1] at hg
            simp at hg; subst hg; exact ⟨h3, h4⟩
      exact this len (Nat.le_refl _)
    refine ⟨some a, len, _, fs, rfl, ⟨hfl, hl, hm, fun hn => ?_, fun b o e i x hx j v hv => ?_⟩, fun x hx => ?_⟩
    · obtain ⟨b, o, s⟩ := a
      obtain ⟨f, hf⟩ : ∃ f, fs[0]? = some f := ⟨_, List.getElem?_eq_getElem (by omega)⟩
      obtain ⟨v, hv⟩ : ∃ v, (enc' f)[0]? = some v := ⟨_, List.getElem?_eq_getElem (by rw [hk]; exact hk0)⟩
      have h0 := (hfs 0 f hf).2 0 v hv
      have hs : s = none := by simpa [Addr.add] using World.cell?_spot h0
      subst hs
      exact ⟨b, o, rfl, by have := World.block_lt_of_cell? _ _ h0; simpa [Addr.add] using this⟩
    · obtain rfl := Option.some.inj e
      have := (hfs i x hx).2 j v hv
      rw [add_plain] at this
      rw [Nat.add_assoc]; exact this
    · obtain ⟨i, hi⟩ := List.mem_iff_getElem?.1 hx
      exact (hfs i x hi).1

/-- A struct of those words by value. -/
theorem open_ST {α : Type} {enc' : α → List Value} {ok : α → Prop} {t : TypeId} {fs : Array Field} (ht : Try.prog.underlying t = some (.struct fs))
    (hleaf : ∀ {n : Nat} {cs : List Value} {x : DataW H × List MemPlace}, DataW.trod enc Try.prog W 0 (fun _ => true) true n t cs = some x → ∃ f : α, cs = enc' f ∧ ok f)
    {v : Value} {d : DataW H} {p : List MemPlace} {base : Nat} (hval : Value.okWide Try.prog W .any base t v) (hd : DataW.Trod enc Try.prog W 0 (fun _ => true) true t v d p) :
    ∃ f : α, v = .agg (enc' f).toArray ∧ ok f := by
  obtain ⟨cs, rfl, _⟩ := okWide_struct ht hval
  obtain ⟨fuel, hf⟩ := hd
  obtain ⟨f, hf1, hok⟩ := hleaf hf
  exact ⟨f, by rw [show cs = (enc' f).toArray by rw [← hf1]; simp [Value.cells]], hok⟩
theorem trodAll_below {P : Program} (hl : laidOutB P = true) {W' : World} (hb : Below W.heap.size W W') : ∀ {ts : List TypeId} {vs : List Value} {ds : List (DataW H)} {ps : List MemPlace}, ts.all (fun t => P.readableRec t && decide (t < P.types.size)) = true →
    DataW.TrodAll enc P W 0 (fun _ => true) true ts vs ds ps → (∀ x ∈ ps, x.block < W.heap.size) → DataW.TrodAll enc P W' 0 (fun b => decide (b < W.heap.size)) true ts vs ds ps
  | [], [], [], ps, _, h, _ => h
  | t :: ts, v :: vs, d :: ds, ps, hts, ⟨p, q, h1, h2, e⟩, hlt => by
    subst e
    simp only [List.all_cons, Bool.and_eq_true, decide_eq_true_eq] at hts
    exact ⟨p, q, Below.trod hl hts.1.1 hts.1.2 h1 hb (fun x hx => hlt x (List.mem_append.2 (.inl hx))), trodAll_below hl hb hts.2 h2 (fun x hx => hlt x (List.mem_append.2 (.inr hx))), rfl⟩

/-- THE POST OF A LAW. -/
theorem law_post {fn : Func} {s : ChangeSpec} {W' : World} {args : Array Value} {ds gs : List (DataW H)} {before : List MemPlace} (hW : DataW.Whole enc Try.prog fn.params.toList s.vars false W args.toList ds gs before)
    (hvars : s.vars = []) (hres : fn.resultTypes = #[4]) (hts : fn.params.toList.all (fun t => Try.prog.readableRec t && decide (t < Try.prog.types.size)) = true)
    (hfn : s.fn H (ds ++ []) = { results := [.lit (.bool true)], args := ds }) (hb : Below W.heap.size W W') :
    s.post enc Try.prog fn false true false false W args (.bool true) W' := by
  have hW' := hW
  have hlt : ∀ x ∈ before, x.block < W.heap.size := fun x hx => by simpa using hW'.lt x hx
  obtain ⟨p, q, hA, hV, e, _, _⟩ := hW
  rw [hvars] at hV
  obtain ⟨rfl, rfl⟩ := trodVars_none hV
  rw [List.append_nil] at e
  subst e
  refine ⟨ds, [], before, [], before, [], hW', ?_, ?_, ?_, hb.frame _, fun h => by cases h⟩
  · rw [hfn, hres]; exact trodAll_mk1 (shut_bool Try.underlying4 true)
  · rw [hfn]; exact trodAll_below row_laid hb hts hA hlt
  · rw [hfn, hvars]; rfl
end
section
variable {H : Type} {enc : TypeId × Value → H} {W : World} {v : Value} {d : DataW H} {p : List MemPlace} {base : Nat}
theorem open_facts (hval : Value.okWide Try.prog W .any base 22 v) (hd : DataW.Trod enc Try.prog W 0 (fun _ => true) true 22 v d p) : ∃ a n c l, v = .slice a n c ∧ SL encF 8 W a n c l ∧ ∀ x ∈ l, okF x := open_SL encF_len (by decide) Try.underlying22 cells_fact leaf_fact hval hd
theorem open_reads (hval : Value.okWide Try.prog W .any base 44 v) (hd : DataW.Trod enc Try.prog W 0 (fun _ => true) true 44 v d p) : ∃ a n c l, v = .slice a n c ∧ SL encR 5 W a n c l ∧ ∀ x ∈ l, okR x := open_SL encR_len (by decide) Try.underlying44 cells_read leaf_read hval hd
theorem open_fact (hval : Value.okWide Try.prog W .any base 28 v) (hd : DataW.Trod enc Try.prog W 0 (fun _ => true) true 28 v d p) : ∃ f : Fact, v = factV f ∧ okF f := open_ST (enc' := encF) Try.underlying28 leaf_fact hval hd
theorem open_key (hval : Value.okWide Try.prog W .any base 24 v) (hd : DataW.Trod enc Try.prog W 0 (fun _ => true) true 24 v d p) : ∃ k : Key, v = keyV k ∧ okK k := open_ST (enc' := encK) Try.underlying24 leaf_key hval hd
theorem open_read (hval : Value.okWide Try.prog W .any base 54 v) (hd : DataW.Trod enc Try.prog W 0 (fun _ => true) true 54 v d p) : ∃ r : Rd, v = .agg #[.int .i64 r.kd, .int .i64 r.sb, .int .i64 r.ob, .int .i64 r.fr, .int .i64 r.til] ∧ okR r := open_ST (enc' := encR) Try.underlying54 leaf_read hval hd
end
end Go.Proofs.Ytfhekhjojdhmhaa
