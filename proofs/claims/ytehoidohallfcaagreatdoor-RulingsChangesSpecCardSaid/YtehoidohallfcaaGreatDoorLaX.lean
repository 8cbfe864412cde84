/- Regions that draw their order: operations that make memory, each looked at once, whatever order they come up in. No program in sight. -/
import Derived.Deep.RegionHeld3
import Derived.Test.YtehoidohallfcaaGreatDoorBaX
namespace Go.Proofs.YtehoidohallfcaaGreatDoor
open Go.RowKit
section
variable {P : Program} {ops : Array Oper} {Q : Exit → Act → World → Prop} {md : Region.Mode} {S : World → Prop}
def ldeps (md : Region.Mode) (ops : Array Oper) (i : Nat) : List Nat := match ops[i]? with
 | some o => (o.after.toList.filter fun e => Region.binds md e).map fun e => e.on
 | none => []
theorem ready_deps {L : Array Bool} {i k : Nat} (h : i ∈ Region.ready md ops L) (hk : k ∈ ldeps md ops i) : L.getD k false = true := by
 obtain ⟨_, o, ho, hd⟩ := mem_ready.1 h
 unfold ldeps at hk
 rw [ho] at hk
 simp only [List.mem_map, List.mem_filter, Array.mem_toList_iff] at hk
 obtain ⟨e, ⟨he, hb⟩, rfl⟩ := hk
 exact hd e he hb
theorem ready_of {L : Array Bool} {i : Nat} (hi : i < ops.size) (h0 : L.getD i true = false) (h : ∀ k ∈ ldeps md ops i, L.getD k false = true) : i ∈ Region.ready md ops L := by
 refine mem_ready.2 ⟨h0, ops[i], Array.getElem?_eq_getElem hi, fun e he hb => h e.on ?_⟩
 unfold ldeps
 rw [Array.getElem?_eq_getElem hi]
 simp only [List.mem_map, List.mem_filter, Array.mem_toList_iff]
 exact ⟨e, ⟨he, hb⟩, rfl⟩
def lwait (md : Region.Mode) (ops : Array Oper) (i : Nat) : List Nat := (List.range ops.size).foldl (fun B j => if j == i || (ldeps md ops j).any fun k => B.contains k then j :: B else B) []
def lwaitB (md : Region.Mode) (ops : Array Oper) (i : Nat) (B : List Nat) : Bool := B.all fun j => j == i || (ldeps md ops j).any fun k => B.contains k
theorem lwait_spec {i : Nat} {B : List Nat} (h : lwaitB md ops i B = true) {j : Nat} (hj : j ∈ B) (hne : j ≠ i) : ∃ k ∈ ldeps md ops j, k ∈ B := by
 have := List.all_eq_true.1 h j hj
 rw [Bool.or_eq_true] at this
 rcases this with h1 | h1
 · exact absurd (by simpa using h1) hne
 · obtain ⟨k, hk, h2⟩ := List.any_eq_true.1 h1
   exact ⟨k, hk, by simpa using h2⟩
theorem getD_ft {L : Array Bool} {k : Nat} (h : L.getD k false = true) : L.getD k true = true := by
 by_cases hk : k < L.size
 · simp [hk] at h ⊢; exact h
 · simp [hk] at h
theorem getD_self {L : Array Bool} {k : Nat} (h : L.getD k true = false) : k < L.size := by
 rcases Nat.lt_or_ge k L.size with h' | h'
 · exact h'
 · simp [Array.getElem?_eq_none h'] at h
def putL (a : Act) : List (Nat × Nat) → (Nat → Value) → Act
 | [], _ => a
 | (i, d) :: r, u => putL (a.put (some d) (u i)) r u
def updV (u : Nat → Value) (i : Nat) (v : Value) : Nat → Value := fun j => if j = i then v else u j
def setL (L : Array Bool) (late : List Nat) : Array Bool := late.foldl (fun L i => L.setIfInBounds i true) L
def topoB (md : Region.Mode) (ops : Array Oper) (L : Array Bool) : List Nat → List Nat → Bool
 | _, [] => true
 | pre, i :: r => ((ldeps md ops i).all fun k => L.getD k false || pre.contains k) && decide (i < ops.size) && topoB md ops L (i :: pre) r
def lateB (md : Region.Mode) (ops : Array Oper) (L : Array Bool) (late : List Nat) : Bool :=
 topoB md ops L [] late && late.all (fun i => L.getD i true == false) && late.all (fun i => lwaitB md ops i (lwait md ops i) && (lwait md ops i).all (fun j => L.getD j true == false) && (lwait md ops i).contains i && (List.range ops.size).all (fun j => L.getD j true || late.contains j || (lwait md ops i).contains j)) && decide late.Nodup
theorem topo_spec {L0 L : Array Bool} {rem : List Nat} : ∀ {l pre : List Nat}, topoB md ops L0 pre l = true → (∀ k, L0.getD k false = true → L.getD k false = true) → (∀ k ∈ pre, L.getD k false = true) → (∀ i ∈ l, i ∉ rem → L.getD i false = true) → (∀ i ∈ l, i ∈ rem → L.getD i true = false) → (∃ i ∈ l, i ∈ rem) → ∃ i, i ∈ Region.ready md ops L
 | [], _, _, _, _, _, _, h => by obtain ⟨i, hi, _⟩ := h; cases hi
 | i :: l, pre, h, h0, hp, h1, h2, h3 => by
  unfold topoB at h
  rw [Bool.and_eq_true, Bool.and_eq_true] at h
  by_cases hi : i ∈ rem
  · refine ⟨i, ready_of (by simpa using h.1.2) (h2 i (List.mem_cons_self ..) hi) fun k hk => ?_⟩
    have := List.all_eq_true.1 h.1.1 k hk
    rw [Bool.or_eq_true] at this
    rcases this with h4 | h4
    · exact h0 k h4
    · exact hp k (by simpa using h4)
  · refine topo_spec (l := l) (pre := i :: pre) h.2 h0 (fun k hk => ?_) (fun j hj => h1 j (List.mem_cons_of_mem _ hj)) (fun j hj => h2 j (List.mem_cons_of_mem _ hj)) ?_
    · rcases List.mem_cons.1 hk with rfl | hk
      · exact h1 k (List.mem_cons_self ..) hi
      · exact hp k hk
    · obtain ⟨j, hj, hr⟩ := h3
      rcases List.mem_cons.1 hj with rfl | hj
      · exact absurd hr hi
      · exact ⟨j, hj, hr⟩
theorem setL_size (late : List Nat) : ∀ L : Array Bool, (setL L late).size = L.size := by
 induction late with
 | nil => intro L; rfl
 | cons i r ih => intro L; show (setL (L.setIfInBounds i true) r).size = _; rw [ih]; simp
theorem setL_get {k : Nat} (late : List Nat) : ∀ L : Array Bool, k < L.size → (setL L late)[k]? = if k ∈ late then some true else L[k]? := by
 induction late with
 | nil => intro L _; simp [setL]
 | cons i r ih =>
  intro L hk
  show (setL (L.setIfInBounds i true) r)[k]? = _
  rw [ih _ (by simpa using hk)]
  by_cases h : k ∈ r
  · rw [if_pos h, if_pos (List.mem_cons_of_mem _ h)]
  · rw [if_neg h]
    by_cases e : i = k
    · subst e
      rw [if_pos (List.mem_cons_self ..)]
      simp [hk]
    · rw [if_neg (by simp only [List.mem_cons, not_or]; exact ⟨Ne.symm e, h⟩), Array.getElem?_setIfInBounds_ne e]
def LateOp (P : Program) (md : Region.Mode) (ops : Array Oper) (Q : Exit → Act → World → Prop) (S : World → Prop) (ds : List (Nat × Nat)) (F : Nat → Value → World → Prop) (a0 : Act) (w0 : World) (i : Nat) : Prop :=
 ∀ (u : Nat → Value) (w : World), S w → Below w0.heap.size w0 w → (∀ k ∈ ds.map (·.1), (ldeps md ops i).contains k = true → F k (u k) w) →
  wpOp P ops Q i (fun b w' => ∃ v, b = putL a0 ds (updV u i v) ∧ F i v w' ∧ Below w.heap.size w w') (putL a0 ds u) w
theorem putL_comm {d : Nat} {v : Value} : ∀ (ds : List (Nat × Nat)) (a : Act) (u : Nat → Value), d ∉ ds.map (·.2) → (putL a ds u).put (some d) v = putL (a.put (some d) v) ds u
 | [], _, _, _ => rfl
 | (j, e) :: r, a, u, h => by
  simp only [List.map_cons, List.mem_cons, not_or] at h
  unfold putL
  rw [putL_comm r _ u h.2, Act.put_comm a (u j) v (fun x hx hy => h.1 (by injection hx with hx; injection hy with hy; omega))]
theorem putL_upd {i : Nat} {v : Value} : ∀ (ds : List (Nat × Nat)) (a : Act) (u : Nat → Value), i ∉ ds.map (·.1) → putL a ds (updV u i v) = putL a ds u
 | [], _, _, _ => rfl
 | (j, e) :: r, a, u, h => by
  simp only [List.map_cons, List.mem_cons, not_or] at h
  unfold putL
  rw [putL_upd r _ u h.2, show updV u i v j = u j from if_neg (Ne.symm h.1)]
theorem put_put (a : Act) (d : Nat) (x v : Value) : (a.put (some d) x).put (some d) v = a.put (some d) v := by
 simp [Act.put, Array.setIfInBounds_setIfInBounds]
theorem putL_put {i d : Nat} {v : Value} : ∀ (ds : List (Nat × Nat)) (a : Act) (u : Nat → Value), (i, d) ∈ ds → (ds.map (·.1)).Nodup → (ds.map (·.2)).Nodup → (putL a ds u).put (some d) v = putL a ds (updV u i v)
 | [], _, _, h, _, _ => by cases h
 | (j, e) :: r, a, u, h, h1, h2 => by
  simp only [List.map_cons, List.nodup_cons] at h1 h2
  rcases List.mem_cons.1 h with he | h
  · injection he with e1 e2
    subst e1; subst e2
    show (putL (a.put (some d) (u i)) r u).put (some d) v = putL (a.put (some d) (updV u i v i)) r (updV u i v)
    rw [putL_comm r _ u h2.1, put_put, putL_upd r _ u h1.1, show updV u i v i = v from if_pos rfl]
  · show (putL (a.put (some e) (u j)) r u).put (some d) v = putL (a.put (some e) (updV u i v j)) r (updV u i v)
    have hne : j ≠ i := fun e1 => h1.1 (by rw [e1]; exact List.mem_map.2 ⟨_, h, rfl⟩)
    rw [putL_put r _ u h h1.2 h2.2, show updV u i v j = u j from if_neg hne]
theorem LateOp.of {ds : List (Nat × Nat)} {F : Nat → Value → World → Prop} {a0 : Act} {w0 : World} {i d : Nat} {o : Oper} (ho : ops[i]? = some o) (hod : o.dst = some d) (hm : (i, d) ∈ ds) (hn : (ds.map (·.1)).Nodup ∧ (ds.map (·.2)).Nodup)
 (h : ∀ (u : Nat → Value) (w : World) (A : Act), A = putL a0 ds u → S w → Below w0.heap.size w0 w → (∀ k ∈ ds.map (·.1), (ldeps md ops i).contains k = true → F k (u k) w) → ∀ K' : Act → World → Prop, Shut (∀ v w', F i v w' → Below w.heap.size w w' → K' (A.put o.dst v) w') → if Region.wanted o (yielded ops A.tmps) = true then Oper.wp P o A w K' Q else K' (A.put o.dst undef) w) : LateOp P md ops Q S ds F a0 w0 i := fun u w h1 h2 h3 => by
 refine wpOp_step ho fun K' hK => h u w _ rfl h1 h2 h3 K' fun v w' h4 h5 => hK _ _ ⟨v, ?_, h4, h5⟩
 rw [hod]; exact putL_put ds a0 u hm hn.1 hn.2
theorem late_all {ds : List (Nat × Nat)} {F : Nat → Value → World → Prop} {a0 : Act} {w0 : World} {L0 : Array Bool} {f : Nat}
 (hchk : lateB md ops L0 (ds.map (·.1)) = true)
 (hS : ∀ w w' : World, S w → Below w.heap.size w w' → S w') (hF : ∀ i v (w w' : World), F i v w → Below w.heap.size w w' → F i v w')
 (hstep : ∀ i ∈ ds.map (·.1), LateOp P md ops Q S ds F a0 w0 i)
 (hrest : ∀ (u : Nat → Value) (w : World), S w → Below w0.heap.size w0 w → (∀ i ∈ ds.map (·.1), F i (u i) w) → wpAnyH P md ops Q S f (setL L0 (ds.map (·.1))) (putL a0 ds u) w) :
 ∀ (rem : List Nat) (L : Array Bool) (u : Nat → Value) (w : World), rem.Nodup → (∀ i ∈ rem, i ∈ ds.map (·.1)) → L.size = L0.size → (∀ k, k ∉ ds.map (·.1) → L[k]? = L0[k]?) → (∀ i ∈ ds.map (·.1), i ∈ rem → L.getD i true = false) → (∀ i ∈ ds.map (·.1), i ∉ rem → L.getD i false = true ∧ F i (u i) w) →
  (∀ i ∈ rem, ∀ j ∈ lwait md ops i, L.getD j true = false) → S w → Below w0.heap.size w0 w → wpAnyH P md ops Q S (f + rem.length) L (putL a0 ds u) w := by
 obtain ⟨late, hlate⟩ : ∃ late, ds.map (·.1) = late := ⟨_, rfl⟩
 rw [hlate] at hchk hstep hrest ⊢
 unfold lateB at hchk
 simp only [Bool.and_eq_true] at hchk
 obtain ⟨⟨⟨htopo, hun⟩, hw⟩, hnd⟩ := hchk
 have hw' : ∀ i ∈ late, lwaitB md ops i (lwait md ops i) = true ∧ i ∈ lwait md ops i ∧ ∀ j, j < ops.size → L0.getD j true = true ∨ j ∈ late ∨ j ∈ lwait md ops i := fun i hi => by
  have := List.all_eq_true.1 hw i hi
  simp only [Bool.and_eq_true] at this
  refine ⟨this.1.1.1, by simpa using this.1.2, fun j hj => ?_⟩
  have h2 := List.all_eq_true.1 this.2 j (List.mem_range.2 hj)
  simp only [Bool.or_eq_true] at h2
  rcases h2 with (h2 | h2) | h2
  · exact .inl h2
  · exact .inr (.inl (by simpa using h2))
  · exact .inr (.inr (by simpa using h2))
 have key : ∀ (n : Nat) (rem : List Nat) (L : Array Bool) (u : Nat → Value) (w : World), rem.length = n → rem.Nodup → (∀ i ∈ rem, i ∈ late) → L.size = L0.size → (∀ k, k ∉ late → L[k]? = L0[k]?) → (∀ i ∈ late, i ∈ rem → L.getD i true = false) → (∀ i ∈ late, i ∉ rem → L.getD i false = true ∧ F i (u i) w) → (∀ i ∈ rem, ∀ j ∈ lwait md ops i, L.getD j true = false) → S w → Below w0.heap.size w0 w → wpAnyH P md ops Q S (f + n) L (putL a0 ds u) w := by
  intro n
  induction n with
  | zero =>
   intro rem L u w hn _ _ hsz hk _ hd _ hs hb
   have hr : rem = [] := List.eq_nil_of_length_eq_zero hn
   subst hr
   have hL : L = setL L0 late := by
    apply Array.ext_getElem?
    intro k
    by_cases hks : k < L0.size
    · rw [setL_get late L0 hks]
      by_cases hkl : k ∈ late
      · rw [if_pos hkl]
        have := (hd k hkl (by simp)).1
        have hks2 : k < L.size := by omega
        simp [hks2] at this ⊢
        exact this
      · rw [if_neg hkl, hk k hkl]
    · rw [Array.getElem?_eq_none (by omega), Array.getElem?_eq_none (by rw [setL_size]; omega)]
   rw [hL]
   exact hrest u w hs hb fun i hi => (hd i hi (by simp)).2
  | succ n ih =>
   intro rem L u w hn hnr hsub hsz hk hu hd hwt hs hb
   have hex : ∃ i ∈ late, i ∈ rem := by
    cases rem with
    | nil => cases hn
    | cons i r => exact ⟨i, hsub i (List.mem_cons_self ..), List.mem_cons_self ..⟩
   have h0L : ∀ k, L0.getD k false = true → L.getD k false = true := fun k h => by
    have hkl : k ∉ late := fun hkl => by
     have := List.all_eq_true.1 hun k hkl
     rw [getD_ft h] at this
     cases this
    have := hk k hkl
    rw [Array.getD_eq_getD_getElem?, this, ← Array.getD_eq_getD_getElem?]; exact h
   have hne := topo_spec (L := L) (rem := rem) htopo h0L (fun k hk => by cases hk) (fun i hi hr => (hd i hi hr).1) hu hex
   refine ⟨fun h => ?_, fun r hr => ?_⟩
   · obtain ⟨i, hi⟩ := hne
     rw [h] at hi; cases hi
   have hrun := (mem_ready.1 hr).1
   have hrl : r ∈ late := Classical.byContradiction fun hrl => by
    obtain ⟨i, hil, hir⟩ := hex
    obtain ⟨q1, _, q3⟩ := hw' i hil
    have hrs : r < ops.size := by
     obtain ⟨_, o, ho, _⟩ := mem_ready.1 hr
     exact (Array.getElem?_eq_some_iff.1 ho).1
    have hmem : r ∈ lwait md ops i := by
     rcases q3 r hrs with h | h | h
     · have := hk r hrl
       rw [Array.getD_eq_getD_getElem?, this, ← Array.getD_eq_getD_getElem?, h] at hrun
       cases hrun
     · exact absurd h hrl
     · exact h
    obtain ⟨k, hkd, hkB⟩ := lwait_spec q1 hmem (fun e => hrl (e ▸ hil))
    have h1 := getD_ft (ready_deps hr hkd)
    rw [hwt i hir k hkB] at h1
    cases h1
   have hrr : r ∈ rem := Classical.byContradiction fun hrr => by
    have := getD_ft (hd r hrl hrr).1
    rw [hrun] at this; cases this
   have hst := hstep r hrl u w hs hb fun k hkl hkd => by
    have h1 := ready_deps hr (by simpa using hkd)
    refine (hd k (by rw [← hlate]; exact hkl) fun hkr => ?_).2
    have := hu k (by rw [← hlate]; exact hkl) hkr
    rw [getD_ft h1] at this; cases this
   refine wpOp_mono ?_ hst
   rintro b w' ⟨v, rfl, hf, hbw⟩
   have hs' := hS w w' hs hbw
   refine ⟨hs', ih (rem.erase r) _ _ w' (by rw [List.length_erase_of_mem hrr, hn]; rfl) (hnr.erase r) (fun i hi => hsub i (List.mem_of_mem_erase hi)) (by simp [hsz]) (fun k hkl => ?_) (fun i hil hir => ?_) (fun i hil hir => ?_) (fun i hir j hj => ?_) hs' (hb.trans (hbw.mono hb.size))⟩
   · rw [Array.getElem?_setIfInBounds_ne (fun e : r = k => hkl (by rw [← e]; exact hrl))]; exact hk k hkl
   · have h3 := (List.Nodup.mem_erase_iff hnr).1 hir
     rw [getD_set_ne true (Ne.symm h3.1)]
     exact hu i hil h3.2
   · by_cases e : i = r
     · subst e
       have hlt := getD_self hrun
       refine ⟨by simp [hlt], ?_⟩
       unfold updV; rw [if_pos rfl]; exact hf
     · have hin : i ∉ rem := fun h => hir ((List.Nodup.mem_erase_iff hnr).2 ⟨e, h⟩)
       obtain ⟨h4, h5⟩ := hd i hil hin
       refine ⟨getD_set_true h4, ?_⟩
       unfold updV; rw [if_neg e]
       exact hF _ _ _ _ h5 hbw
   · have h3 := (List.Nodup.mem_erase_iff hnr).1 hir
     by_cases e : j = r
     · subst e
       obtain ⟨k, hkd, hkB⟩ := lwait_spec (hw' i (hsub i h3.2)).1 hj (Ne.symm h3.1)
       have h1 := getD_ft (ready_deps hr hkd)
       rw [hwt i h3.2 k hkB] at h1
       cases h1
     · rw [getD_set_ne true (Ne.symm e)]
       exact hwt i h3.2 j hj
 intro rem L u w h1 h2 h3 h4 h5 h6 h7 h8 h9
 exact key rem.length rem L u w rfl h1 h2 h3 h4 h5 h6 h7 h8 h9
theorem wpAnyH_late (ds : List (Nat × Nat)) (F : Nat → Value → World → Prop) {a0 : Act} {w0 : World} {L0 : Array Bool} {f : Nat} (u0 : Nat → Value) (ha : a0 = putL a0 ds u0)
 (hchk : lateB md ops L0 (ds.map (·.1)) = true)
 (hS : ∀ w w' : World, S w → Below w.heap.size w w' → S w') (hF : ∀ i v (w w' : World), F i v w → Below w.heap.size w w' → F i v w') (h0 : S w0)
 (hstep : ∀ i ∈ ds.map (·.1), LateOp P md ops Q S ds F a0 w0 i)
 (hrest : ∀ (u : Nat → Value) (w : World), S w → Below w0.heap.size w0 w → (∀ i ∈ ds.map (·.1), F i (u i) w) → wpAnyH P md ops Q S f (setL L0 (ds.map (·.1))) (putL a0 ds u) w) :
 wpAnyH P md ops Q S (f + ds.length) L0 a0 w0 := by
 have hc := hchk
 unfold lateB at hc
 simp only [Bool.and_eq_true] at hc
 obtain ⟨⟨⟨_, hun⟩, hw⟩, hnd⟩ := hc
 have h := late_all hchk hS hF hstep hrest (ds.map (·.1)) L0 u0 w0 (by simpa using hnd) (fun i hi => hi) rfl (fun _ _ => rfl) (fun i hi _ => by have := List.all_eq_true.1 hun i hi; simpa using this) (fun i hi hn => absurd hi hn) (fun i hi j hj => by
  have := List.all_eq_true.1 hw i hi
  simp only [Bool.and_eq_true] at this
  have h2 := List.all_eq_true.1 this.1.1.2 j hj
  simpa using h2) h0 (Below.refl _ _)
 rw [List.length_map] at h
 rw [ha]; exact h
theorem step_value {o : Oper} {a : Act} {w w' : World} {v : Value} {K : Act → World → Prop} {E : Prop} (hgd : o.guard = none) (hr : (execOp a.eval o).run P w = .ok (.value v) w') (h : K (a.put o.dst v) w') :
 if Region.wanted o (yielded ops a.tmps) = true then Oper.wp P o a w K Q else E := by
 have hw : Region.wanted o (yielded ops a.tmps) = true := by simp [Region.wanted, hgd]
 rw [if_pos hw]
 unfold Oper.wp
 rw [hr]
 exact h
theorem step_enter {o : Oper} {a : Act} {w w1 : World} {f : FuncId} {args : Array Value} {K : Act → World → Prop} {E : Prop} (hgd : o.guard = none) (hr : (execOp a.eval o).run P w = .ok (.enter f args) w1) (h : Calls P f args w1 (fun e w' => ∃ v, e = .returned v ∧ K (a.put o.dst v) w')) :
 if Region.wanted o (yielded ops a.tmps) = true then Oper.wp P o a w K Q else E := by
 have hw : Region.wanted o (yielded ops a.tmps) = true := by simp [Region.wanted, hgd]
 rw [if_pos hw]
 unfold Oper.wp
 rw [hr]
 refine h.mono ?_
 rintro e w' ⟨v, rfl, hk⟩
 exact hk
end
open Go.RowKit
section
variable {P : Program}
theorem run_append_empty (w : World) (base : Nat) (t ty e : TypeId) (i : TypeInfo) (z : Value) (size bytes : Nat) (ht : P.underlying t = some (.slice e)) (hi : P.info? e = some i) (hz : i.zero = some z)
 (hsize : i.size = size) (hby : i.bytes = bytes) (hzs : z.cells.size = size)
 (a0 : Option Addr) (hown : w.ownsRow base e size (.slice a0 0 0) 0 [])
 (ao : Option Addr) (m c : Nat) (news : List Value) (hao : ao = none → m = 0) (hl : news.length = m * size) (hnews : ∀ ad, ao = some ad → ∀ j u, news[j]? = some u → w.cell? (ad.add j) = some u)
 (h63 : m ≤ maxLen) (hbytes : m * bytes ≤ 140737488355328) (hbase : base ≤ w.heap.size) :
 ∃ v' w', (Builtin.append_ #[t, t] ty #[.slice a0 0 0, .slice ao m c]).run P w = .ok v' w' ∧ w'.ownsRow base e size v' m news ∧ Below w.heap.size w w' := by
 rcases Nat.eq_zero_or_pos m with hm | hm
 · subst hm
   have : news = [] := List.eq_nil_of_length_eq_zero (by simpa using hl)
   subst this
   refine ⟨.slice a0 0 0, w, ?_, hown, Below.refl _ _⟩
   cases ao with
   | none => exact run_append_owned_none2 (P := P) (w := w) base t ty e i size ht hi _ _ _ c hown
   | some ad => cases a0 <;> simp [Builtin.append_, run_underlying ht, sizeOf, typeInfo, hi, Builtin.lenOf, Builtin.firstCells, storeCells, loadCells, loadCellsFrom]
 · cases ao with
   | none => have := hao rfl; omega
   | some ad =>
    obtain ⟨v', w', h1, h2, h3⟩ := run_append_full (P := P) w t ty e i z size bytes ht hi hz hsize hby hzs a0 0 [] (by simp) (fun h => absurd h (by omega)) (fun _ _ j v h => by simp at h) ad m c news hl (hnews ad rfl) hm (by omega) (by rw [Nat.zero_add]; exact hbytes)
    rw [Nat.zero_add, List.nil_append] at h2
    exact ⟨v', w', h1, ownsRow_mono' h2 hbase, h3⟩
theorem step_append_empty {ops : Array Oper} {o : Oper} {a : Act} {w : World} {K : Act → World → Prop} {Q : Exit → Act → World → Prop} {E : Prop} (hgd : o.guard = none) (s x : Operand) (t : TypeId)
 (ho : o.op = .call { callee := .builtin .append, args := #[s, x], argTypes := #[t, t] })
 (base : Nat) (e : TypeId) (i : TypeInfo) (z : Value) (size bytes : Nat) (ht : P.underlying t = some (.slice e)) (hi : P.info? e = some i) (hz : i.zero = some z)
 (hsize : i.size = size) (hby : i.bytes = bytes) (hzs : z.cells.size = size)
 (a0 : Option Addr) (hown : w.ownsRow base e size (.slice a0 0 0) 0 []) (hs : a.eval s = .slice a0 0 0)
 (ao : Option Addr) (m c : Nat) (news : List Value) (hx : a.eval x = .slice ao m c) (hao : ao = none → m = 0) (hl : news.length = m * size) (hnews : ∀ ad, ao = some ad → ∀ j u, news[j]? = some u → w.cell? (ad.add j) = some u)
 (h63 : m ≤ maxLen) (hbytes : m * bytes ≤ 140737488355328) (hbase : base ≤ w.heap.size)
 (h : ∀ v' w', w'.ownsRow base e size v' m news → Below w.heap.size w w' → K (a.put o.dst v') w') :
 if Region.wanted o (yielded ops a.tmps) = true then Oper.wp P o a w K Q else E := by
 have hw : Region.wanted o (yielded ops a.tmps) = true := by simp [Region.wanted, hgd]
 rw [if_pos hw]
 obtain ⟨v', w', hr, h2, h3⟩ := run_append_empty (P := P) w base t o.type e i z size bytes ht hi hz hsize hby hzs a0 hown ao m c news hao hl hnews h63 hbytes hbase
 unfold Oper.wp execOp
 simp only [ho, resolve, invoke, builtin, Sem.run_bind, Sem.run_pure, Result.andThen_ok, List.map_toArray, List.map_cons, List.map_nil, hs, hx, hr]
 exact h v' w' h2 h3
theorem wpList_append_empty {ops : Array Oper} {rest : List Oper} {o : Oper} {a : Act} {w : World} {Q : Exit → Act → World → Prop} (hgd : o.guard = none) (s x : Operand) (t : TypeId)
 (ho : o.op = .call { callee := .builtin .append, args := #[s, x], argTypes := #[t, t] })
 (base : Nat) (e : TypeId) (i : TypeInfo) (z : Value) (size bytes : Nat) (ht : P.underlying t = some (.slice e)) (hi : P.info? e = some i) (hz : i.zero = some z)
 (hsize : i.size = size) (hby : i.bytes = bytes) (hzs : z.cells.size = size)
 (a0 : Option Addr) (hown : w.ownsRow base e size (.slice a0 0 0) 0 []) (hs : a.eval s = .slice a0 0 0)
 (ao : Option Addr) (m c : Nat) (news : List Value) (hx : a.eval x = .slice ao m c) (hao : ao = none → m = 0) (hl : news.length = m * size) (hnews : ∀ ad, ao = some ad → ∀ j u, news[j]? = some u → w.cell? (ad.add j) = some u)
 (h63 : m ≤ maxLen) (hbytes : m * bytes ≤ 140737488355328) (hbase : base ≤ w.heap.size)
 (h : ∀ v' w', w'.ownsRow base e size v' m news → Below w.heap.size w w' → wpList P ops Q rest (a.put o.dst v') w') : wpList P ops Q (o :: rest) a w :=
 wpList_plain hgd fun K hK => by
  obtain ⟨v', w', hr, h2, h3⟩ := run_append_empty (P := P) w base t o.type e i z size bytes ht hi hz hsize hby hzs a0 hown ao m c news hao hl hnews h63 hbytes hbase
  unfold Oper.wp execOp
  simp only [ho, resolve, invoke, builtin, Sem.run_bind, Sem.run_pure, Result.andThen_ok, List.map_toArray, List.map_cons, List.map_nil, hs, hx, hr]
  exact hK _ _ (h v' w' h2 h3)
end
end Go.Proofs.YtehoidohallfcaaGreatDoor
