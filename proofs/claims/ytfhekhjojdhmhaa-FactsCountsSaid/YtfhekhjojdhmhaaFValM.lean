/- The values of a key on all days: plain words and the three local arrays. -/
import Derived.Test.YtfhekhjojdhmhaaFAt
import Derived.Test.YtfhekhjojdhmhaaFAtR
import Derived.Deep.MidRow
namespace Go.Proofs.Ytfhekhjojdhmhaa
open Go.RowKit

theorem zero85 : Try.zeroCells85 = Array.replicate 1024 (.bool false) := by kernel_rfl
theorem zero70 : Try.zeroCells70.size = 1024 := by kernel_rfl
theorem zero84 : Try.zeroCells84.size = 8192 := by kernel_rfl

def valAt (l : List Fact) (k : Key) (known : Int) (d : Int) : Int := match bestOn d (ofL l k known) with
  | none => -1
  | some f => max f.val (-1)
theorem valAt_at (l : List Fact) (k : Key) (known d : Int) : atF l k d known = if 0 ≤ valAt l k known d then some (valAt l k known d) else none := by
  show (bestOn d (ofL l k known)).bind (fun f => if f.val < 0 then none else some f.val) = _
  unfold valAt
  cases bestOn d (ofL l k known) with
  | none => simp
  | some f =>
    show (if f.val < 0 then none else some f.val) = (if 0 ≤ max f.val (-1) then some (max f.val (-1)) else none)
    by_cases h : f.val < 0
    · rw [if_pos h, if_neg (by omega)]
    · rw [if_neg h, if_pos (by omega), show max f.val (-1) = f.val by omega]
theorem valAt_getD (l : List Fact) (k : Key) (known d : Int) : valAt l k known d = (atF l k d known).getD (-1) := by
  rw [valAt_at]
  by_cases h : 0 ≤ valAt l k known d
  · rw [if_pos h]; rfl
  · rw [if_neg h]
    show _ = (-1 : Int)
    unfold valAt at h ⊢
    cases hb : bestOn d (ofL l k known) with
    | none => rfl
    | some f => rw [hb] at h; simp only at h ⊢; omega
def rowV (l : List Fact) (k : Key) (known : Int) : Array Value := ((List.range 1024).map fun d : Nat => Value.int .i64 (valAt l k known d)).toArray
theorem rowV_size (l : List Fact) (k : Key) (known : Int) : (rowV l k known).size = 1024 := by unfold rowV; simp
theorem rowV_get (l : List Fact) (k : Key) (known : Int) {d : Nat} (h : d < 1024) : (rowV l k known)[d]? = some (.int .i64 (valAt l k known d)) := by unfold rowV; simp [h]
theorem rowV_one (l : List Fact) (k : Key) (known : Int) : ∀ v ∈ (rowV l k known).toList, v.oneCell' = true := by
  intro v hv
  unfold rowV at hv
  simp at hv
  obtain ⟨d, _, rfl⟩ := hv
  rfl
theorem rowV_of {cs : Array Value} {l : List Fact} {k : Key} {known : Int} (hs : cs.size = 1024) (h : ∀ d, d < 1024 → cs[d]? = some (.int .i64 (valAt l k known (d : Nat)))) : cs = rowV l k known := by
  apply Array.ext_getElem?
  intro d
  by_cases hd : d < 1024
  · rw [h d hd, rowV_get l k known hd]
  · rw [Array.getElem?_eq_none (by omega), Array.getElem?_eq_none (by rw [rowV_size]; omega)]

theorem results_cell_mid {fn : Func} {p : Tmp} {ty : TypeId} (h : fn.results = #[.cell p ty]) (tmps : Array Value) (w : World) (b : Nat) (cs : List Value) (d : TypeDesc)
    (hp : tmps.getD p undef = .pointer (some ⟨b, 0, none⟩)) (hc : w.rangeAt b 0 cs)
    (hu : Try.prog.underlying ty = some d) (hd : d.isRow = true) (hi : (Try.prog.info? ty).map (·.size) = some cs.length) :
    (results fn tmps).run Try.prog w = .ok (.agg cs.toArray) w := by
  have hp' : tmps[p]?.getD undef = .pointer (some ⟨b, 0, none⟩) := by simpa using hp
  simp [results, h, hp', asAddr, run_loadVar_mid (P := Try.prog) w b 0 ty cs d hc hu hd hi]
theorem info_row : (Try.prog.info? 70).map (·.size) = some 1024 := by kernel_rfl
theorem rowV_len (l : List Fact) (k : Key) (known : Int) : (rowV l k known).toList.length = 1024 := by rw [Array.length_toList, rowV_size]
theorem below_setCells {n0 b : Nat} {w0 : World} (hb : n0 ≤ b) : ∀ (vs : List Value) (o : Nat) (w : World), Below n0 w0 w → Below n0 w0 (w.setCells b o vs)
  | [], _, _, h => h
  | v :: r, o, _w, h => below_setCells hb r (o + 1) _ (h.setCell (p := ⟨b, o, none⟩) hb v)
theorem heap_setCells {b k : Nat} (hk : k ≠ b) : ∀ (vs : List Value) (o : Nat) (w : World), (w.setCells b o vs).heap[k]? = w.heap[k]?
  | [], _, _ => rfl
  | _v :: r, o, _w => (heap_setCells hk r (o + 1) _).trans (Below.heap_setCell _ _ _ k hk)
theorem Box.range {w : World} {b : Nat} {cs : Array Value} {t : TypeId} (h : Box w b cs t) : w.rangeAt b 0 cs.toList := fun j v hv => by
  rw [Nat.zero_add, h.cell j, ← Array.getElem?_toList]; exact hv
theorem Box.there {w : World} {b : Nat} {cs : Array Value} {t : TypeId} (h : Box w b cs t) : w.there b 0 cs.size := fun j hj => by
  rw [Nat.zero_add, h.cell j]
  exact ⟨by rw [Array.getElem?_eq_getElem hj]; rfl, h.frozen j⟩
theorem row_set {cs : Array Value} {l : List Fact} {k : Key} {known : Int} {d : Nat} (h : cs.size = 1024 ∧ ∀ i, i < d → cs[i]? = some (.int .i64 (valAt l k known (i : Nat)))) (hd : d < 1024) {v : Int} (hv : valAt l k known d = v) :
    (cs.setIfInBounds d (.int .i64 v)).size = 1024 ∧ ∀ i, i < d + 1 → (cs.setIfInBounds d (.int .i64 v))[i]? = some (.int .i64 (valAt l k known (i : Nat))) := by
  refine ⟨by simp [h.1], fun i hi => ?_⟩
  by_cases e : i = d
  · subst e; rw [Array.getElem?_setIfInBounds_self_of_lt (by omega), hv]
  · rw [Array.getElem?_setIfInBounds_ne (by omega)]; exact h.2 i (by omega)

/-- The arrays best (block M) and some (block M + 1) hold β's facts. -/
structure Bst (w : World) (M : Nat) (β : Nat → Option Fact) : Prop where
  best : ∃ cs, Box w M cs 84 ∧ cs.size = 8192 ∧ ∀ d y, d < 1024 → β d = some y → ∀ j v, (encF y)[j]? = some v → cs[d * 8 + j]? = some v
  some' : ∃ cs, Box w (M + 1) cs 85 ∧ cs.size = 1024 ∧ ∀ d, d < 1024 → cs[d]? = some (.bool (β d).isSome)
section
variable {w w' : World} {M : Nat} {β γ : Nat → Option Fact}
theorem Bst.heap (h : Bst w M β) (h1 : w'.heap[M]? = w.heap[M]?) (h2 : w'.heap[M + 1]? = w.heap[M + 1]?) : Bst w' M β :=
  ⟨let ⟨cs, a, b⟩ := h.best; ⟨cs, h1.trans a, b⟩, let ⟨cs, a, b⟩ := h.some'; ⟨cs, h2.trans a, b⟩⟩
theorem Bst.lt (h : Bst w M β) : M + 1 < w.heap.size := let ⟨_, a, _⟩ := h.some'; a.lt
theorem Bst.below (h : Bst w M β) (hb : Below w.heap.size w w') : Bst w' M β := h.heap (hb.block _ (by have := h.lt; omega)) (hb.block _ h.lt)
theorem Bst.put (h : Bst w M β) {l : Nat} (h1 : M ≠ l) (h2 : M + 1 ≠ l) (o' : Obj) : Bst (w.putObj l o') M β := h.heap (World.putObj_heap_other h1) (World.putObj_heap_other h2)
theorem Bst.congr (h : Bst w M β) (e : ∀ d, d < 1024 → β d = γ d) : Bst w M γ :=
  ⟨let ⟨cs, a, b, c⟩ := h.best; ⟨cs, a, b, fun d y hd hy => c d y hd (by rw [e d hd]; exact hy)⟩, let ⟨cs, a, b, c⟩ := h.some'; ⟨cs, a, b, fun d hd => by rw [← e d hd]; exact c d hd⟩⟩
theorem Bst.cell8 (h : Bst w M β) {d : Nat} (hd : d < 1024) {y : Fact} (hy : β d = some y) : At8 w M (d * 8) y := by
  obtain ⟨cs, a, b, c⟩ := h.best
  have k : ∀ j v, (encF y)[j]? = some v → w.cell? ⟨M, d * 8 + j, none⟩ = some v := fun j v hv => (a.cell _).trans (c d y hd hy j v hv)
  exact ⟨k 0 _ rfl, k 1 _ rfl, k 2 _ rfl, k 3 _ rfl, k 4 _ rfl, k 5 _ rfl, k 6 _ rfl, k 7 _ rfl⟩
theorem Bst.someC (h : Bst w M β) {d : Nat} (hd : d < 1024) : w.cell? ⟨M + 1, d, none⟩ = some (.bool (β d).isSome) := by
  obtain ⟨cs, a, b, c⟩ := h.some'
  exact (a.cell _).trans (c d hd)
theorem Bst.there (h : Bst w M β) {d : Nat} (hd : d < 8192) : ∃ v, w.cell? ⟨M, d, none⟩ = some v := by
  obtain ⟨cs, a, b, c⟩ := h.best
  exact ⟨_, (a.cell d).trans (Array.getElem?_eq_getElem (by omega))⟩
theorem Bst.frozen (h : Bst w M β) (i : Nat) : w.frozen? ⟨M, i, none⟩ = false := let ⟨_, a, _⟩ := h.best; a.frozen i
theorem Bst.frozen1 (h : Bst w M β) (i : Nat) : w.frozen? ⟨M + 1, i, none⟩ = false := let ⟨_, a, _⟩ := h.some'; a.frozen i
theorem heap_set8o (w : World) (M o : Nat) (x : Fact) (k : Nat) (hk : k ≠ M) : (((((((((w.setCell ⟨M, o, none⟩ (.int .i64 x.kd)).setCell ⟨M, o + 1, none⟩ (.int .i64 x.sb)).setCell ⟨M, o + 2, none⟩ (.int .i64 x.ob)).setCell ⟨M, o + 3, none⟩ (.int .i64 x.val)).setCell ⟨M, o + 4, none⟩ (.int .i64 x.vf)).setCell ⟨M, o + 5, none⟩ (.int .i64 x.vt)).setCell ⟨M, o + 6, none⟩ (.int .i64 x.kn)).setCell ⟨M, o + 7, none⟩ (.int .i64 x.no))).heap[k]? = w.heap[k]? :=
  (Below.heap_setCell _ _ _ k hk).trans ((Below.heap_setCell _ _ _ k hk).trans ((Below.heap_setCell _ _ _ k hk).trans ((Below.heap_setCell _ _ _ k hk).trans ((Below.heap_setCell _ _ _ k hk).trans ((Below.heap_setCell _ _ _ k hk).trans ((Below.heap_setCell _ _ _ k hk).trans (Below.heap_setCell _ _ _ k hk)))))))
theorem below_set8o {n0 : Nat} {w0 w : World} (h : Below n0 w0 w) (M o : Nat) (hM : n0 ≤ M) (x : Fact) : Below n0 w0 (((((((((w.setCell ⟨M, o, none⟩ (.int .i64 x.kd)).setCell ⟨M, o + 1, none⟩ (.int .i64 x.sb)).setCell ⟨M, o + 2, none⟩ (.int .i64 x.ob)).setCell ⟨M, o + 3, none⟩ (.int .i64 x.val)).setCell ⟨M, o + 4, none⟩ (.int .i64 x.vf)).setCell ⟨M, o + 5, none⟩ (.int .i64 x.vt)).setCell ⟨M, o + 6, none⟩ (.int .i64 x.kn)).setCell ⟨M, o + 7, none⟩ (.int .i64 x.no))) :=
  (((((((h.setCell (p := ⟨M, o, none⟩) hM _).setCell (p := ⟨M, o + 1, none⟩) hM _).setCell (p := ⟨M, o + 2, none⟩) hM _).setCell (p := ⟨M, o + 3, none⟩) hM _).setCell (p := ⟨M, o + 4, none⟩) hM _).setCell (p := ⟨M, o + 5, none⟩) hM _).setCell (p := ⟨M, o + 6, none⟩) hM _).setCell (p := ⟨M, o + 7, none⟩) hM _
def put8 (cs : Array Value) (o : Nat) (x : Fact) : Array Value := (((((((cs.setIfInBounds o (.int .i64 x.kd)).setIfInBounds (o + 1) (.int .i64 x.sb)).setIfInBounds (o + 2) (.int .i64 x.ob)).setIfInBounds (o + 3) (.int .i64 x.val)).setIfInBounds (o + 4) (.int .i64 x.vf)).setIfInBounds (o + 5) (.int .i64 x.vt)).setIfInBounds (o + 6) (.int .i64 x.kn)).setIfInBounds (o + 7) (.int .i64 x.no)
theorem put8_size (cs : Array Value) (o : Nat) (x : Fact) : (put8 cs o x).size = cs.size := by unfold put8; simp
theorem put8_out (cs : Array Value) (o : Nat) (x : Fact) (i : Nat) (h : i < o ∨ o + 8 ≤ i) : (put8 cs o x)[i]? = cs[i]? := by
  unfold put8
  rw [Array.getElem?_setIfInBounds_ne (by omega), Array.getElem?_setIfInBounds_ne (by omega), Array.getElem?_setIfInBounds_ne (by omega), Array.getElem?_setIfInBounds_ne (by omega), Array.getElem?_setIfInBounds_ne (by omega), Array.getElem?_setIfInBounds_ne (by omega), Array.getElem?_setIfInBounds_ne (by omega), Array.getElem?_setIfInBounds_ne (by omega)]
theorem put8_in (cs : Array Value) (o : Nat) (x : Fact) (h : o + 8 ≤ cs.size) (j : Nat) (v : Value) (hv : (encF x)[j]? = some v) : (put8 cs o x)[o + j]? = some v := by
  unfold put8
  have hj : j < 8 := (List.getElem?_eq_some_iff.1 hv).1
  have : j = 0 ∨ j = 1 ∨ j = 2 ∨ j = 3 ∨ j = 4 ∨ j = 5 ∨ j = 6 ∨ j = 7 := by omega
  rcases this with rfl | rfl | rfl | rfl | rfl | rfl | rfl | rfl
  · rw [Array.getElem?_setIfInBounds_ne (by omega), Array.getElem?_setIfInBounds_ne (by omega), Array.getElem?_setIfInBounds_ne (by omega), Array.getElem?_setIfInBounds_ne (by omega), Array.getElem?_setIfInBounds_ne (by omega), Array.getElem?_setIfInBounds_ne (by omega), Array.getElem?_setIfInBounds_ne (by omega)]
    show (cs.setIfInBounds o _)[o]? = _
    rw [Array.getElem?_setIfInBounds_self_of_lt (by omega)]
    exact hv
  · rw [Array.getElem?_setIfInBounds_ne (by omega), Array.getElem?_setIfInBounds_ne (by omega), Array.getElem?_setIfInBounds_ne (by omega), Array.getElem?_setIfInBounds_ne (by omega), Array.getElem?_setIfInBounds_ne (by omega), Array.getElem?_setIfInBounds_ne (by omega), Array.getElem?_setIfInBounds_self_of_lt (by simp only [Array.size_setIfInBounds]; omega)]
    exact hv
  · rw [Array.getElem?_setIfInBounds_ne (by omega), Array.getElem?_setIfInBounds_ne (by omega), Array.getElem?_setIfInBounds_ne (by omega), Array.getElem?_setIfInBounds_ne (by omega), Array.getElem?_setIfInBounds_ne (by omega), Array.getElem?_setIfInBounds_self_of_lt (by simp only [Array.size_setIfInBounds]; omega)]
    exact hv
  · rw [Array.getElem?_setIfInBounds_ne (by omega), Array.getElem?_setIfInBounds_ne (by omega), Array.getElem?_setIfInBounds_ne (by omega), Array.getElem?_setIfInBounds_ne (by omega), Array.getElem?_setIfInBounds_self_of_lt (by simp only [Array.size_setIfInBounds]; omega)]
    exact hv
  · rw [Array.getElem?_setIfInBounds_ne (by omega), Array.getElem?_setIfInBounds_ne (by omega), Array.getElem?_setIfInBounds_ne (by omega), Array.getElem?_setIfInBounds_self_of_lt (by simp only [Array.size_setIfInBounds]; omega)]
    exact hv
  · rw [Array.getElem?_setIfInBounds_ne (by omega), Array.getElem?_setIfInBounds_ne (by omega), Array.getElem?_setIfInBounds_self_of_lt (by simp only [Array.size_setIfInBounds]; omega)]
    exact hv
  · rw [Array.getElem?_setIfInBounds_ne (by omega), Array.getElem?_setIfInBounds_self_of_lt (by simp only [Array.size_setIfInBounds]; omega)]
    exact hv
  · rw [Array.getElem?_setIfInBounds_self_of_lt (by simp only [Array.size_setIfInBounds]; omega)]
    exact hv
theorem box_put8 {cs : Array Value} {o : Nat} {t : TypeId} (h : Box w M cs t) (x : Fact) : Box (((((((((w.setCell ⟨M, o, none⟩ (.int .i64 x.kd)).setCell ⟨M, o + 1, none⟩ (.int .i64 x.sb)).setCell ⟨M, o + 2, none⟩ (.int .i64 x.ob)).setCell ⟨M, o + 3, none⟩ (.int .i64 x.val)).setCell ⟨M, o + 4, none⟩ (.int .i64 x.vf)).setCell ⟨M, o + 5, none⟩ (.int .i64 x.vt)).setCell ⟨M, o + 6, none⟩ (.int .i64 x.kn)).setCell ⟨M, o + 7, none⟩ (.int .i64 x.no))) M (put8 cs o x) t :=
  (((((((h.set o (.int .i64 x.kd)).set (o + 1) (.int .i64 x.sb)).set (o + 2) (.int .i64 x.ob)).set (o + 3) (.int .i64 x.val)).set (o + 4) (.int .i64 x.vf)).set (o + 5) (.int .i64 x.vt)).set (o + 6) (.int .i64 x.kn)).set (o + 7) (.int .i64 x.no)
/-- A fact is stored at a day. -/
theorem Bst.set (h : Bst w M β) {t : Nat} (ht : t < 1024) (x : Fact) : Bst ((((((((((w.setCell ⟨M, t * 8, none⟩ (.int .i64 x.kd)).setCell ⟨M, t * 8 + 1, none⟩ (.int .i64 x.sb)).setCell ⟨M, t * 8 + 2, none⟩ (.int .i64 x.ob)).setCell ⟨M, t * 8 + 3, none⟩ (.int .i64 x.val)).setCell ⟨M, t * 8 + 4, none⟩ (.int .i64 x.vf)).setCell ⟨M, t * 8 + 5, none⟩ (.int .i64 x.vt)).setCell ⟨M, t * 8 + 6, none⟩ (.int .i64 x.kn)).setCell ⟨M, t * 8 + 7, none⟩ (.int .i64 x.no))).setCell ⟨M + 1, t, none⟩ (.bool true)) M (fun d => if d = t then some x else β d) := by
  obtain ⟨cs, a, b, c⟩ := h.best
  obtain ⟨cs2, a2, b2, c2⟩ := h.some'
  have a3 := heap_set8o w M (t * 8) x (M + 1) (by omega)
  have a4 := box_put8 (o := t * 8) a x
  obtain ⟨X, hX⟩ : ∃ X, (((((((((w.setCell ⟨M, t * 8, none⟩ (.int .i64 x.kd)).setCell ⟨M, t * 8 + 1, none⟩ (.int .i64 x.sb)).setCell ⟨M, t * 8 + 2, none⟩ (.int .i64 x.ob)).setCell ⟨M, t * 8 + 3, none⟩ (.int .i64 x.val)).setCell ⟨M, t * 8 + 4, none⟩ (.int .i64 x.vf)).setCell ⟨M, t * 8 + 5, none⟩ (.int .i64 x.vt)).setCell ⟨M, t * 8 + 6, none⟩ (.int .i64 x.kn)).setCell ⟨M, t * 8 + 7, none⟩ (.int .i64 x.no))) = X := ⟨_, rfl⟩
  rw [hX] at a3 a4 ⊢
  clear hX
  have a5 : Box X (M + 1) cs2 85 := a3.trans a2
  refine ⟨⟨_, a4.setOther _ (by simp), by rw [put8_size]; exact b, fun d y hd hy j v hv => ?_⟩, ⟨_, a5.set t (.bool true), by simp [b2], fun d hd => ?_⟩⟩
  · have hj : j < 8 := (List.getElem?_eq_some_iff.1 hv).1
    by_cases hdt : d = t
    · subst hdt
      have hy2 : x = y := Option.some.inj ((if_pos rfl).symm.trans hy)
      rw [← hy2] at hv
      exact put8_in cs _ x (by omega) j v hv
    · have hy : β d = some y := (if_neg hdt).symm.trans hy
      rw [put8_out _ _ _ _ (by omega)]
      exact c d y hd hy j v hv
  · by_cases hdt : d = t
    · subst hdt
      rw [Array.getElem?_setIfInBounds_self_of_lt (by omega)]
      simp
    · rw [Array.getElem?_setIfInBounds_ne (by omega), c2 d hd]
      simp only [if_neg hdt]
end
end Go.Proofs.Ytfhekhjojdhmhaa
