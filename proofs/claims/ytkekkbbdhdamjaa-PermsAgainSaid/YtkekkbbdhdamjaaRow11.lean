/- From a law's contract to its row: arguments opened as this seat's words, the post of a law that leaves all that was there. -/
import Derived.Test.YtkekkbbdhdamjaaRows
import Derived.Test.YtkekkbbdhdamjaaPMem
import Derived.Deep.Matrix
import Derived.ProofKit
namespace Go.Proofs.Ytkekkbbdhdamjaa
open Go.ChangeShapes Go.WideShapes Go.ChangeAt Go.RowKit Go.Deep

theorem row_own : ownKnob Try.prog.godebug = none := by kernel_rfl
theorem row_laid : laidOutB Try.prog = true := by kernel_rfl
theorem row_cells3 : Try.prog.cellsOf 3 = 1 := by kernel_rfl
theorem row_cells22 : Try.prog.cellsOf 22 = 1 := by kernel_rfl

section
variable {H : Type} {enc : TypeId × Value → H} {W : World}

theorem ints_of {a : Addr} {len cap : Nat} {zs : List Int} (hl : len ≤ cap) (hm : cap ≤ maxLen) (hz : zs.length = cap) (hc : ∀ i, i < zs.length → W.cell? (a.add i) = some (.int .i64 (zs.getD i 0))) : Ints W (some a) len cap (zs.take len) := by
  have spot : 0 < cap → ∃ b o, a = ⟨b, o, none⟩ ∧ b < W.heap.size := fun h => by
    obtain ⟨b, o, s⟩ := a
    have h0 := hc 0 (by omega)
    have hs : s = none := by simpa [Addr.add] using World.cell?_spot h0
    subst hs
    exact ⟨b, o, rfl, by have := World.block_lt_of_cell? _ _ h0; simpa [Addr.add] using this⟩
  refine ⟨by rw [List.length_take]; omega, hl, hm, fun hn => ?_, fun b o e i hi => ?_⟩
  · obtain ⟨b, o, rfl, hb⟩ := spot (by omega)
    exact ⟨b, o, rfl, hb⟩
  · obtain rfl := Option.some.inj e
    have h := hc i (by omega)
    rw [add_plain] at h
    rw [h]
    simp [List.getD, hi]

set_option maxRecDepth 100000 in
theorem open_L {v : Value} {d : DataW H} {p : List MemPlace} {base : Nat} (hval : Value.okWide Try.prog W .any base 22 v) (hd : DataW.Trod enc Try.prog W 0 (fun _ => true) true 22 v d p) :
    ∃ a n c l, v = .slice a n c ∧ Ints W a n c l ∧ ∀ x ∈ l, (Lit.int .i64 x).wf = true := by
  obtain ⟨a0, len, cap, rfl⟩ := okWide_slice Try.underlying22 hval
  obtain ⟨fuel, hf⟩ := hd
  rcases open_ints Try.underlying22 Try.underlying3 row_cells3 hf with ⟨hcs, _⟩ | ⟨a, len', cap', zs, hcs, _, hl, hm, hz, _, hcell, hwz⟩
  · simp [Value.cells] at hcs
    obtain ⟨rfl, rfl, rfl⟩ := hcs
    exact ⟨none, 0, 0, [], rfl, Ints.nil W, by simp⟩
  · simp [Value.cells] at hcs
    obtain ⟨rfl, rfl, rfl⟩ := hcs
    simp only [if_true] at hz
    exact ⟨_, _, _, _, rfl, ints_of hl hm hz hcell, fun x hx => hwz x (List.mem_of_mem_take hx)⟩

set_option maxRecDepth 100000 in
theorem open_LL {v : Value} {d : DataW H} {p : List MemPlace} {base : Nat} (hval : Value.okWide Try.prog W .any base 31 v) (hd : DataW.Trod enc Try.prog W 0 (fun _ => true) true 31 v d p) :
    ∃ a n c ll, v = .slice a n c ∧ Rows W a n c ll ∧ ∀ l ∈ ll, ∀ x ∈ l, (Lit.int .i64 x).wf = true := by
  obtain ⟨a0, len, cap, rfl⟩ := okWide_slice Try.underlying31 hval
  obtain ⟨fuel, hf⟩ := hd
  rcases open_int_rows Try.underlying31 Try.underlying22 Try.underlying3 row_cells22 row_cells3 hf with ⟨hcs, _⟩ | ⟨a, len', cap', A, L, C, Z, hcs, _, hl, hm, _, hrows⟩
  · simp [Value.cells] at hcs
    obtain ⟨rfl, rfl, rfl⟩ := hcs
    exact ⟨none, 0, 0, [], rfl, Rows.nil W, by simp⟩
  · simp [Value.cells] at hcs
    obtain ⟨rfl, rfl, rfl⟩ := hcs
    refine ⟨_, _, _, (List.range len).map fun r => (Z r).take (L r), rfl, ⟨by simp, hl, hm, fun hn => ?_, fun b o e i hi => ?_⟩, ?_⟩
    · obtain ⟨b, o, s⟩ := a
      have h0 := (hrows 0 (by omega)).1
      have hs : s = none := by simpa [Addr.add] using World.cell?_spot h0
      subst hs
      exact ⟨b, o, rfl, by have := World.block_lt_of_cell? _ _ h0; simpa [Addr.add] using this⟩
    · obtain rfl := Option.some.inj e
      obtain ⟨h1, h2, h3, h4, _, h6, h7⟩ := hrows i (by omega)
      rw [add_plain] at h1
      refine ⟨A i, L i, C i, h1, ?_⟩
      have hr : ((List.range len).map fun r => (Z r).take (L r))[i]?.getD [] = (Z i).take (L i) := by simp [hi]
      rw [hr]
      cases hA : A i with
      | none =>
        have hC := h6 hA
        have hL : L i = 0 := by omega
        have : (Z i).take (L i) = [] := by simp [hL]
        rw [this, hL, hC]; exact Ints.nil W
      | some a' => exact ints_of h2 h3 h4 (fun j hj => (h7 a' hA).2 j (by omega))
    · intro l hlm x hx
      obtain ⟨r, hr, rfl⟩ := List.mem_map.1 hlm
      exact (hrows r (by have := List.mem_range.1 hr; omega)).2.2.2.2.1 x (List.mem_of_mem_take hx)

theorem trodAll_below {P : Program} (hl : laidOutB P = true) {W' : World} (hb : Below W.heap.size W W') : ∀ {ts : List TypeId} {vs : List Value} {ds : List (DataW H)} {ps : List MemPlace}, ts.all (fun t => P.readableRec t && decide (t < P.types.size)) = true →
    DataW.TrodAll enc P W 0 (fun _ => true) true ts vs ds ps → (∀ x ∈ ps, x.block < W.heap.size) → DataW.TrodAll enc P W' 0 (fun b => decide (b < W.heap.size)) true ts vs ds ps
  | [], [], [], ps, _, h, _ => h
  | t :: ts, v :: vs, d :: ds, ps, hts, ⟨p, q, h1, h2, e⟩, hlt => by
    subst e
    simp only [List.all_cons, Bool.and_eq_true, decide_eq_true_eq] at hts
    exact ⟨p, q, Below.trod hl hts.1.1 hts.1.2 h1 hb (fun x hx => hlt x (List.mem_append.2 (.inl hx))), trodAll_below hl hb hts.2 h2 (fun x hx => hlt x (List.mem_append.2 (.inr hx))), rfl⟩

/-- THE POST OF A LAW. -/
theorem law_post {fn : Func} {s : ChangeSpec} {W' : World} {args : Array Value} {ds gs : List (DataW H)} {before : List MemPlace} (hW : DataW.Whole enc Try.prog fn.params.toList s.vars false W args.toList ds gs before)
    (hvars : s.vars = []) (hres : fn.resultTypes = #[4]) (hts : fn.params.toList.all (fun t => Try.prog.readableRec t && decide (t < Try.prog.types.size)) = true)
    (hfn : s.fn H (ds ++ []) = { results := [.lit (.bool true)], args := ds }) (hb : Below W.heap.size W W') :
    s.post enc Try.prog fn false true false false W args (.bool true) W' := by
  have hW' := hW
  have hlt : ∀ x ∈ before, x.block < W.heap.size := fun x hx => by simpa using hW'.lt x hx
  obtain ⟨p, q, hA, hV, e, _, _⟩ := hW
  rw [hvars] at hV
  obtain ⟨rfl, rfl⟩ := trodVars_none hV
  rw [List.append_nil] at e
  subst e
  refine ⟨ds, [], before, [], before, [], hW', ?_, ?_, ?_, hb.frame _, fun h => by cases h⟩
  · rw [hfn, hres]; exact trodAll_mk1 (shut_bool Try.underlying4 true)
  · rw [hfn]; exact trodAll_below row_laid hb hts hA hlt
  · rw [hfn, hvars]; rfl
end
end Go.Proofs.Ytkekkbbdhdamjaa
