/- Old memory but one block is as it was; what perms.Orbits holds. Plain words. -/
import Derived.Test.YtkekkbbdhdamjaaPClp
import Derived.Test.YtkekkbbdhdamjaaPSo
import Derived.Test.YtkekkbbdhdamjaaOrbM
import Derived.WalkKit
import Derived.WalkSpells
import Derived.WalkLawsBesides
import Derived.Deep.LoopGhost
import Derived.Deep.QuietTactic
import Derived.BigQuiet
import Derived.StillTailTactics
import Derived.Lib.Hide
import Derived.Outline
import Derived.Lib.QuietBelow
namespace Go.Proofs.Ytkekkbbdhdamjaa
open Go.RowKit

section
variable {w0 w w' : World} {B : Nat}
theorem kept_set (h : w0.grownBy w (some B)) (x : Nat) (v : Value) : w0.grownBy (w.setCell ⟨B, x, none⟩ v) (some B) := by
  have hg := grownBy_setCell w ⟨B, x, none⟩ v
  exact ⟨hg.os.trans h.os, hg.tape.trans h.tape, hg.output.trans h.output, Nat.le_trans h.size hg.size, fun k hk hne => (hg.block k (Nat.lt_of_lt_of_le hk h.size) hne).trans (h.block k hk hne)⟩
theorem kept_grown {row : Option Nat} (h : w0.grownBy w (some B)) (hg : w.grownBy w' row) (hr : ∀ q, row = some q → w0.heap.size ≤ q) : w0.grownBy w' (some B) :=
  ⟨hg.os.trans h.os, hg.tape.trans h.tape, hg.output.trans h.output, Nat.le_trans h.size hg.size, fun k hk hne => (hg.block k (Nat.lt_of_lt_of_le hk h.size) (fun e => by have := hr k e.symm; omega)).trans (h.block k hk hne)⟩
theorem kept_below (h : w0.grownBy w (some B)) (hb : Below w.heap.size w w') : w0.grownBy w' (some B) :=
  ⟨hb.os.trans h.os, hb.tape.trans h.tape, hb.output.trans h.output, Nat.le_trans h.size hb.size, fun k hk hne => (hb.block k (Nat.lt_of_lt_of_le hk h.size)).trans (h.block k hk hne)⟩
end

/-- The orbits found, beside the flags. -/
structure OTo (w : World) (base : Nat) (vt : Value) (B : Nat) (L : List (List Int)) : Prop where
  rows : ORows w base (PB w vt B) 22 vt L
  ne : vt.ownBlock ≠ some B
section
variable {w w' : World} {base B : Nat} {vt : Value} {L : List (List Int)}
theorem OTo.below (h : OTo w base vt B L) (hb : Below w.heap.size w w') : OTo w' base vt B L :=
  ⟨(h.rows.below hb).imp fun _ => PB.on hb.size, h.ne⟩
theorem OTo.kept (h : OTo w base vt B L) (hg : w.grownBy w' (some B)) : OTo w' base vt B L := ⟨Todo.put h.rows h.ne hg, h.ne⟩
theorem OTo.nil (w : World) (base B : Nat) : OTo w base (.slice none 0 0) B [] := ⟨⟨[], ⟨rfl, .inl ⟨rfl, rfl⟩⟩, Olds.nil _ _⟩, by simp [Value.ownBlock]⟩
theorem OTo.step {vt' : Value} {us : List Value} {ap : Option Addr} {np cp : Nat} {p : List Int} (hold : Olds w (PB w vt B) us L) (hp : Ints w ap np cp p) (hpq : ∀ q, 0 < np → (Value.slice ap np cp).ownBlock = some q → PB w vt B q)
    (hne : vt.ownBlock ≠ some B) (hB : B < w.heap.size)
    (hown : w'.ownsRow base 22 1 vt' (L.length + 1) (us ++ [.slice ap np cp])) (hg : w.grownBy w' vt.ownBlock) (hfr : vt'.ownBlock = vt.ownBlock ∨ vt'.ownBlock = some w.heap.size) : OTo w' base vt' B (L ++ [p]) := by
  have hPT : ∀ q, PB w vt B q → PB w' vt' B q := by
    intro q hq
    refine ⟨Nat.lt_of_lt_of_le hq.1 hg.size, ?_, hq.2.2⟩
    rcases hfr with e | e
    · rw [e]; exact hq.2.1
    · rw [e]; intro e2; injection e2 with e2; have := hq.1; omega
  have hr : ∀ q, vt.ownBlock = some q → ¬ PB w vt B q := fun q e h => h.2.1 e
  refine ⟨⟨us ++ [.slice ap np cp], by rw [List.length_append]; exact hown, ((hold.append (Olds.one hp hpq)).grown hg hr).imp hPT⟩, ?_⟩
  rcases hfr with e | e
  · rw [e]; exact hne
  · rw [e]; intro e2; injection e2 with e2; omega
end

/-! ### what the loops compute -/
section
variable {gens : List (List Int)} {N k : Nat}
theorem bfsO_round {s : List Nat} {a j : Nat} (hj : s[a]? = some j) (ha : a < N) : bfsO gens (N - a) a s = bfsO gens (N - (a + 1)) (a + 1) (stepO gens j s) := by
  rw [show N - a = (N - (a + 1)) + 1 by omega, bfsO, hj]
theorem bfsO_end {s : List Nat} {a f : Nat} (hj : s.length ≤ a) : bfsO gens f a s = s := by
  cases f with
  | zero => rfl
  | succ f => rw [bfsO, List.getElem?_eq_none hj]
theorem stepO_at {i j : Nat} {g : List Int} {s : List Nat} (hg : gens[i]? = some g) : stepO (gens.drop i) j s = stepO (gens.drop (i + 1)) j (if ap g j ∈ s then s else s ++ [ap g j]) := by
  obtain ⟨h1, e1⟩ := List.getElem?_eq_some_iff.1 hg
  rw [List.drop_eq_getElem_cons h1, e1]; rfl
theorem stepO_last {i j : Nat} {s : List Nat} (hk : gens.length ≤ i) : stepO (gens.drop i) j s = s := by rw [List.drop_of_length_le hk]; rfl
/-- The numbers in the orbits of numbers less than k. -/
def DInv (N : Nat) (gens : List (List Int)) (k : Nat) (D : List Int) : Prop := ∀ x : Nat, x < N → ((x : Int) ∈ D ↔ ∃ j, j < k ∧ Conn gens j x)
theorem DInv.zero : DInv N gens 0 [] := fun x _ => ⟨fun h => by simp at h, fun ⟨j, hj, _⟩ => by omega⟩
theorem DInv.first (hg : ∀ g ∈ gens, okPerm g N) {D : List Int} (h : DInv N gens k D) (hk : k < N) : firstB N gens k = !decide ((k : Int) ∈ D) := by
  cases e : decide ((k : Int) ∈ D)
  · have e := of_decide_eq_false e
    exact (firstB_iff hg hk).2 fun j hj hc => e ((h k hk).2 ⟨j, hj, hc⟩)
  · have e := of_decide_eq_true e
    obtain ⟨j, hj, hc⟩ := (h k hk).1 e
    cases e2 : firstB N gens k
    · rfl
    · exact absurd hc ((firstB_iff hg hk).1 e2 j hj)
theorem DInv.skip {D : List Int} (h : DInv N gens k D) (hk : k < N) (hd : (k : Int) ∈ D) : DInv N gens (k + 1) D := fun x hx => by
  rw [h x hx]
  obtain ⟨j0, hj0, hc0⟩ := (h k hk).1 hd
  constructor
  · rintro ⟨j, hj, hc⟩; exact ⟨j, by omega, hc⟩
  · rintro ⟨j, hj, hc⟩
    by_cases e : j = k
    · subst e; exact ⟨j0, hj0, hc0.trans hc⟩
    · exact ⟨j, by omega, hc⟩
theorem mem_ofNat {s : List Nat} {x : Nat} : (x : Int) ∈ s.map Int.ofNat ↔ x ∈ s := by
  rw [List.mem_map]
  constructor
  · rintro ⟨y, hy, e⟩; have : y = x := Int.ofNat.inj e
    subst this; exact hy
  · intro h; exact ⟨x, h, rfl⟩
theorem DInv.more (hg : ∀ g ∈ gens, okPerm g N) {D : List Int} (h : DInv N gens k D) (hk : k < N) : DInv N gens (k + 1) (D ++ (orbO N gens k).map Int.ofNat) := fun x hx => by
  rw [List.mem_append, h x hx, mem_ofNat, (mem_orbO hg hk).1]
  constructor
  · rintro (⟨j, hj, hc⟩ | hc)
    · exact ⟨j, by omega, hc⟩
    · exact ⟨k, by omega, hc⟩
  · rintro ⟨j, hj, hc⟩
    by_cases e : j = k
    · subst e; exact .inr hc
    · exact .inl ⟨j, by omega, hc⟩
/-- A number that the search from k meets lies in no earlier orbit. -/
theorem DInv.new (hg : ∀ g ∈ gens, okPerm g N) {D : List Int} (h : DInv N gens k D) (hk : k < N) (hd : (k : Int) ∉ D) {s : List Nat} {g : List Int} {j : Nat} (hG : GrowO N gens k s) (hm : g ∈ gens) (hj : j ∈ s) : (((ap g j : Nat) : Int) ∈ D ++ s.map Int.ofNat ↔ ap g j ∈ s) := by
  have hx : ap g j < N := (hg g hm).lt (hG.lt j hj)
  rw [List.mem_append, mem_ofNat, h _ hx]
  constructor
  · rintro (⟨i, hi, hc⟩ | hs)
    · exact absurd ((h k hk).2 ⟨i, hi, hc.trans (Conn.symm hg hk (.step hm (hG.rc j hj)))⟩) hd
    · exact hs
  · exact .inr
theorem orb_sorted (hg : ∀ g ∈ gens, okPerm g N) (hk : k < N) : sortI ((orbO N gens k).map Int.ofNat) = orbL N gens k := by
  obtain ⟨h1, h2, h3⟩ := mem_orbO hg hk
  refine lt_uniq (sortI_lt (nodup_map_inj h2 fun x _ y _ e => Int.ofNat.inj e)) (orbL_lt _ _ _) fun x => ?_
  rw [mem_sortI, mem_orbL hg hk, List.mem_map]
  constructor
  · rintro ⟨j, hj, rfl⟩; exact ⟨j, rfl, (h1 j).1 hj⟩
  · rintro ⟨j, rfl, hj⟩; exact ⟨j, (h1 j).2 hj, rfl⟩
end
def orbR (n : Int) (gens : List (List Int)) : List (List Int) := if validE n gens ≠ 0 then [] else orbsTo n.toNat gens n.toNat
end Go.Proofs.Ytkekkbbdhdamjaa
