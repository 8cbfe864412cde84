/- Regions that draw their order: loads may be taken first if they come up before one operation (an append, a store) behind which the cells may differ. No program in sight. -/
import Derived.Deep.RegionHeld3
import Derived.Test.YtehoidohallfcaaGreatDoorBaX
namespace Go.Proofs.YtehoidohallfcaaGreatDoor
open Go.RowKit

section
variable {P : Program} {ops : Array Oper} {Q : Exit → Act → World → Prop} {md : Region.Mode} {S : World → Prop} {q : Nat}
/-- Whatever order is picked from here on; S holds as long as the operation q has not come up. -/
def AnyQ (P : Program) (md : Region.Mode) (ops : Array Oper) (Q : Exit → Act → World → Prop) (S : World → Prop) (q : Nat) : Nat → Array Bool → Act → World → Prop
  | 0, L, a, w => Region.ready md ops L = [] ∧ Q .normal a w
  | f + 1, L, a, w => (Region.ready md ops L = [] → Q .normal a w) ∧
    ∀ i, i ∈ Region.ready md ops L → wpOp P ops Q i (fun b v => ((L.setIfInBounds i true).getD q true = false → S v) ∧ AnyQ P md ops Q S q f (L.setIfInBounds i true) b v) a w
theorem AnyQ.any : ∀ {f : Nat} {L : Array Bool} {a : Act} {w : World}, AnyQ P md ops Q S q f L a w → wpAny P md ops Q f L a w
  | 0, _, _, _, h => h
  | _ + 1, _, _, _, h => And.intro h.1 fun i hi => wpOp_mono (fun _ _ h' => AnyQ.any h'.2) (h.2 i hi)
/-- The operations that wait for i, directly or through others. -/
def waitsB (md : Region.Mode) (ops : Array Oper) (i : Nat) (B : List Nat) : Bool := B.all fun j => j == i || match ops[j]? with
  | some o => o.after.any fun e => Region.binds md e && B.contains e.on
  | none => false
def waitsL (md : Region.Mode) (ops : Array Oper) (i : Nat) : List Nat := (List.range ops.size).foldl (fun B j => if j == i || (match ops[j]? with
  | some o => o.after.any fun e => Region.binds md e && B.contains e.on
  | none => false) then j :: B else B) []
theorem waits_spec {i : Nat} {B : List Nat} (h : waitsB md ops i B = true) {j : Nat} (hj : j ∈ B) (hne : j ≠ i) : ∃ o e, ops[j]? = some o ∧ e ∈ o.after ∧ Region.binds md e = true ∧ e.on ∈ B := by
  have := List.all_eq_true.1 h j hj
  rw [Bool.or_eq_true] at this
  rcases this with h1 | h1
  · exact absurd (by simpa using h1) hne
  · cases e : ops[j]? with
    | none => rw [e] at h1; cases h1
    | some o =>
      rw [e] at h1
      obtain ⟨x, hx, h2⟩ := Array.any_eq_true'.1 h1
      rw [Bool.and_eq_true] at h2
      exact ⟨o, x, rfl, hx, h2.1, by simpa using h2.2⟩
theorem AnyQ.first {i : Nat} {oi : Oper} {v : Value} (hi : ops[i]? = some oi) (hsel : ∀ (j : Nat) (o : Oper) cs b, ops[j]? = some o → o.op ≠ .select cs b)
    (hQ : ∀ c a w, Q (.panic c) (a.put oi.dst v) w → Q (.panic c) a w) {B : List Nat} (hB : waitsB md ops i B = true) (hq : q ∈ B) (hqi : q ≠ i) :
    ∀ (f : Nat) (L : Array Bool) (a : Act) (w : World), (∀ j oj, ops[j]? = some oj → j ≠ i → L.getD j true = false → (∀ e ∈ oj.after, Region.binds md e = true → e.on ≠ i) → oi.apart ops oj = true) →
      (∀ j, j ∈ B → L.getD j true = false) → i ∈ Region.ready md ops L → YieldsIf P ops S oi v a → S w → AnyQ P md ops Q S q f (L.setIfInBounds i true) (a.put oi.dst v) w → AnyQ P md ops Q S q (f + 1) L a w := by
  intro f
  induction f with
  | zero =>
    intro L a w hap hL hr hy hS H
    refine ⟨fun h0 => ?_, fun j hj => ?_⟩
    · rw [h0] at hr; cases hr
    · by_cases e : j = i
      · subst e; exact hy.wpOp hi hS ⟨fun _ => hS, H⟩
      · have h1 := ready_mono hj e
        rw [H.1] at h1; cases h1
  | succ f ih =>
    intro L a w hap hL hr hy hS H
    refine ⟨fun h0 => ?_, fun j hj => ?_⟩
    · rw [h0] at hr; cases hr
    by_cases e : j = i
    · subst e; exact hy.wpOp hi hS ⟨fun _ => hS, H⟩
    have hmj := mem_ready.1 hj
    obtain ⟨hun, oj, hoj, hdep⟩ := hmj
    have hil := (mem_ready.1 hr).1
    have hset : ∀ k, L.getD k true = false → L.getD k false = false := fun k h => by
      by_cases hk : k < L.size
      · simp [hk] at h ⊢; exact h
      · simp [hk] at h
    have hjB : j ∉ B := fun hjB => by
      obtain ⟨o', x, ho', hx, hb, hxB⟩ := waits_spec hB hjB e
      rw [hoj] at ho'; injection ho' with ho'; subst ho'
      have h1 := hdep x hx hb
      rw [hset _ (hL _ hxB)] at h1; cases h1
    have hno : ∀ x ∈ oj.after, Region.binds md x = true → x.on ≠ i := fun x hx hb he => by
      have h1 := hdep x hx hb
      rw [he, hset _ hil] at h1; cases h1
    have hqj : q ≠ j := fun h => hjB (h ▸ hq)
    have h2 := wpOp_putIf hoj (hap j oj hoj e hun hno) (fun cs b => hsel i oi cs b hi) (fun cs b => hsel j oj cs b hoj) hQ hy (H.2 j (ready_mono hj e))
    refine wpOp_mono (fun b u h3 => ?_) h2
    obtain ⟨hyb, hSu, hrest⟩ := h3
    have hq2 : ((L.setIfInBounds i true).setIfInBounds j true).getD q true = false := by
      rw [getD_set_ne true (Ne.symm hqj), getD_set_ne true (Ne.symm hqi)]; exact hL q hq
    have hSu' := hSu hq2
    refine ⟨fun _ => hSu', ih _ b u (fun k ok hk hki hku hkn => ?_) (fun k hk => ?_) (ready_mono hr (Ne.symm e)) hyb hSu' ?_⟩
    · refine hap k ok hk hki ?_ hkn
      by_cases ejk : j = k
      · rw [← ejk]; exact hun
      · rw [getD_set_ne true ejk] at hku; exact hku
    · rw [getD_set_ne true (fun h : j = k => hjB (h ▸ hk))]; exact hL k hk
    · rw [Array.setIfInBounds_comm _ _ e]; exact hrest
/-- Take number i first. -/
theorem AnyQ.take {i : Nat} {oi : Oper} {v : Value} {f : Nat} {L : Array Bool} {a : Act} {w : World} (hi : ops[i]? = some oi)
    (hs : Region.noSelect ops = true) (hf : Region.free md ops L i = true) (hr : (Region.ready md ops L).contains i = true) (hB : (waitsB md ops i (waitsL md ops i) && (waitsL md ops i).contains q && (waitsL md ops i).all fun j => L.getD j true == false) = true) (hqi : (q == i) = false)
    (hQ : ∀ c a w, Q (.panic c) (a.put oi.dst v) w → Q (.panic c) a w) (hy : YieldsIf P ops S oi v a) (hS : S w)
    (h : AnyQ P md ops Q S q f (L.setIfInBounds i true) (a.put oi.dst v) w) : AnyQ P md ops Q S q (f + 1) L a w := by
  rw [Bool.and_eq_true, Bool.and_eq_true] at hB
  refine AnyQ.first hi (Region.noSelect_spec hs) hQ hB.1.1 (by simpa using hB.1.2) (by simpa using hqi) f L a w (Region.free_spec hi hf) (fun j hj => ?_) (by simpa using hr) hy hS h
  simpa using List.all_eq_true.1 hB.2 j hj
/-- One operation comes up, no other may. -/
theorem AnyQ.one {i : Nat} {o : Oper} {f : Nat} {L : Array Bool} {a : Act} {w : World} (hr : Region.ready md ops L = [i]) (ho : ops[i]? = some o)
    (h : ∀ K' : Act → World → Prop, Shut (∀ b u, ((L.setIfInBounds i true).getD q true = false → S u) → AnyQ P md ops Q S q f (L.setIfInBounds i true) b u → K' b u) → if Region.wanted o (yielded ops a.tmps) = true then Oper.wp P o a w K' Q else K' (a.put o.dst undef) w) : AnyQ P md ops Q S q (f + 1) L a w := by
  refine ⟨fun h0 => ?_, fun j hj => ?_⟩
  · rw [h0] at hr; cases hr
  · rw [hr, List.mem_singleton] at hj
    subst hj
    exact wpOp_step ho fun K' hK => h K' fun b u h1 h2 => hK b u ⟨h1, h2⟩
theorem AnyQ.done {L : Array Bool} {a : Act} {w : World} (hr : Region.ready md ops L = []) (h : Q .normal a w) : ∀ f, AnyQ P md ops Q S q f L a w
  | 0 => ⟨hr, h⟩
  | _ + 1 => ⟨fun _ => h, by rw [hr]; simp⟩
/-- The beginning. -/
theorem region_anyQ {id : Nat} {a : Act} {w : World} (S : World → Prop) (q : Nat) (hm : P.follows .mixedOrders = true) (hS : S w.drew)
    (h : S w.drew → AnyQ P .any ops Q S q ops.size (Array.replicate ops.size false) a w.drew) : (Code.region id ops true).wp P Q a w :=
  wp_region_any hm (h hS).any
end
end Go.Proofs.YtehoidohallfcaaGreatDoor

