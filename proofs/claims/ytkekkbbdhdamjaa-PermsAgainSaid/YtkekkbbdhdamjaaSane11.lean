/- The chapter's examples: law11.sane answers true. -/
import Derived.Test.YtkekkbbdhdamjaaSanM11
import Derived.Deep.RegionHeld3
import Derived.WalkKit
import Derived.WalkSpells
import Derived.WalkLawsBesides
import Derived.Deep.LoopGhost
import Derived.Deep.QuietTactic
import Derived.BigQuiet
import Derived.StillTailTactics
import Derived.Lib.Hide
import Derived.Outline
import Derived.Lib.QuietBelow
namespace Go.Proofs.Ytkekkbbdhdamjaa
open Go.RowKit

theorem lit_ints (w : World) (cs : Array Value) (l : List Int) (n : Nat) (h : cs.toList = l.map (Value.int .i64)) (hl : l.length = n) (hn : n ≤ 1000000) : Ints (w.alloc (.cells cs 3)) (some ⟨w.heap.size, 0, none⟩) n n l := by
  have ho : OwnInts (w.alloc (.cells cs 3)) w.heap.size 3 (.slice (some ⟨w.heap.size, 0, none⟩) n n) l := own_of_box (Box.new w cs 3) hl h (Nat.le_refl _) hn
  obtain ⟨a, c, e, hI⟩ := ho.ints
  injection e with e1 e2 e3
  subst e1 e3
  rw [hl] at hI
  exact hI
theorem lit_rows {w : World} {B : Nat} {P : Nat → Prop} {us : List Value} {ll : List (List Int)} {n : Nat} {t : TypeId} (h : Box w B us.toArray t) (hO : Olds w P us ll) (hl : ll.length = n) (hn : n ≤ 1000000) : Rows w (some ⟨B, 0, none⟩) n n ll := by
  subst hl
  have hul : us.length = ll.length := hO.1
  have ho : ORows w 0 P t (.slice (some ⟨B, 0, none⟩) ll.length ll.length) ll := ⟨us, ⟨by rw [hul, Nat.mul_one], .inr ⟨B, ll.length, _, rfl, Nat.zero_le _, h, Nat.le_refl _, by unfold maxLen; omega, by simp [hul], by rw [Nat.mul_one, ← hul]; simp⟩⟩, hO⟩
  obtain ⟨a, c, e, hR, _⟩ := ho.rows
  injection e with e1 e2 e3
  subst e1 e3
  exact hR
def TT : Nat → Prop := fun _ => True
theorem al (w : World) (o : Obj) : Below w.heap.size w (w.alloc o) := (Below.refl _ _).alloc (Nat.le_refl _) _
theorem lit_next {w : World} {o : Obj} {cs : Array Value} {l : List Int} {n k : Nat} (hk : w.heap.size + 1 = k) (h : cs.toList = l.map (Value.int .i64)) (hl : l.length = n) (hn : n ≤ 1000000) : Ints ((w.alloc o).alloc (.cells cs 3)) (some ⟨k, 0, none⟩) n n l := by
  have := lit_ints (w.alloc o) cs l n h hl hn
  rw [World.size_alloc, hk] at this
  exact this
theorem c_comp1 (w : World) : Calls Try.prog 11 #[.slice (some ⟨w.heap.size, 0, none⟩) 3 3, .slice (some ⟨w.heap.size + 1, 0, none⟩) 3 3] ((w.alloc (.cells #[.int .i64 1, .int .i64 2, .int .i64 0] 3)).alloc (.cells #[.int .i64 1, .int .i64 0, .int .i64 2] 3)) fun e w' => ∃ a c, e = .returned (.tuple #[.slice a 3 c, .int .i64 0]) ∧ Ints w' a 3 c [2, 1, 0] ∧ Below w.heap.size w w' := by
  have i1 := (lit_ints w #[.int .i64 1, .int .i64 2, .int .i64 0] [1, 2, 0] 3 rfl rfl (by omega)).below (al _ (.cells #[.int .i64 1, .int .i64 0, .int .i64 2] 3))
  have i2 := lit_next (w := w) (o := (.cells #[.int .i64 1, .int .i64 2, .int .i64 0] 3)) (cs := #[.int .i64 1, .int .i64 0, .int .i64 2]) (l := [1, 0, 2]) (n := 3) rfl rfl rfl (by omega)
  refine (compose_any _ _ 3 3 3 3 _ _ _ i1 i2).mono ?_
  rintro e w1 ⟨v, rfl, hO, hB⟩
  rw [san_comp.1] at hO
  obtain ⟨a, c, rfl, hI⟩ := hO.ints
  exact ⟨a, c, by rw [san_comp.2.1]; rfl, hI, ((al _ _).on (al _ _)).on hB⟩
theorem c_comp2 (w : World) : Calls Try.prog 11 #[.slice (some ⟨w.heap.size, 0, none⟩) 2 2, .slice (some ⟨w.heap.size + 1, 0, none⟩) 3 3] ((w.alloc (.cells #[.int .i64 0, .int .i64 1] 3)).alloc (.cells #[.int .i64 0, .int .i64 1, .int .i64 2] 3)) fun e w' => ∃ v, e = .returned (.tuple #[v, .int .i64 110]) ∧ Below w.heap.size w w' := by
  have i1 := (lit_ints w #[.int .i64 0, .int .i64 1] [0, 1] 2 rfl rfl (by omega)).below (al _ (.cells #[.int .i64 0, .int .i64 1, .int .i64 2] 3))
  have i2 := lit_next (w := w) (o := .cells #[.int .i64 0, .int .i64 1] 3) (cs := #[.int .i64 0, .int .i64 1, .int .i64 2]) (l := [0, 1, 2]) (n := 3) rfl rfl rfl (by omega)
  refine (compose_any _ _ 2 2 3 3 _ _ _ i1 i2).mono ?_
  rintro e w1 ⟨v, rfl, hO, hB⟩
  exact ⟨v, by rw [san_comp.2.2.2.1], ((al _ _).on (al _ _)).on hB⟩
theorem c_inv (w : World) : Calls Try.prog 13 #[.slice (some ⟨w.heap.size, 0, none⟩) 3 3] (w.alloc (.cells #[.int .i64 1, .int .i64 2, .int .i64 0] 3)) fun e w' => ∃ a c, e = .returned (.tuple #[.slice a 3 c, .int .i64 0]) ∧ Ints w' a 3 c [2, 0, 1] ∧ Below w.heap.size w w' := by
  have i1 := lit_ints w #[.int .i64 1, .int .i64 2, .int .i64 0] [1, 2, 0] 3 rfl rfl (by omega)
  refine (inverse_any _ 3 3 _ _ i1).mono ?_
  rintro e w1 ⟨v, rfl, hO, hB⟩
  rw [san_comp.2.2.2.2.1] at hO
  obtain ⟨a, c, rfl, hI⟩ := hO.ints
  exact ⟨a, c, by rw [san_comp.2.2.2.2.2.1]; rfl, hI, (al _ _).on hB⟩
theorem one_rows (w : World) (x y z : Int) : Rows ((w.alloc (.cells #[.int .i64 x, .int .i64 y, .int .i64 z] 3)).alloc (.cells #[.slice (some ⟨w.heap.size, 0, none⟩) 3 3] 22)) (some ⟨w.heap.size + 1, 0, none⟩) 1 1 [[x, y, z]] := by
  have i1 := (lit_ints w #[.int .i64 x, .int .i64 y, .int .i64 z] [x, y, z] 3 rfl rfl (by omega)).below (al _ (.cells #[.slice (some ⟨w.heap.size, 0, none⟩) 3 3] 22))
  have bx := Box.new (w.alloc (.cells #[.int .i64 x, .int .i64 y, .int .i64 z] 3)) #[.slice (some ⟨w.heap.size, 0, none⟩) 3 3] 22
  rw [World.size_alloc] at bx
  exact lit_rows (P := TT) bx (Olds.one i1 fun _ _ _ => trivial) rfl (by omega)
theorem c_clo3 (w : World) : Calls Try.prog 19 #[.int .i64 3, .slice (some ⟨w.heap.size + 1, 0, none⟩) 1 1] ((w.alloc (.cells #[.int .i64 1, .int .i64 2, .int .i64 0] 3)).alloc (.cells #[.slice (some ⟨w.heap.size, 0, none⟩) 3 3] 22)) fun e w' => ∃ a n c, e = .returned (.tuple #[.slice a n c, .int .i64 0]) ∧ Rows w' a n c [[0, 1, 2], [1, 2, 0], [2, 0, 1]] ∧ Below w.heap.size w w' := by
  refine (closure_any 3 _ 1 1 _ _ (one_rows w 1 2 0)).mono ?_
  rintro e w1 ⟨a, n, c, rfl, hR, hB⟩
  rw [san_clo.1] at hR
  exact ⟨a, n, c, by rw [san_clo.2.1], hR, ((al _ _).on (al _ _)).on hB⟩
theorem c_orb3 (w : World) : Calls Try.prog 21 #[.int .i64 3, .slice (some ⟨w.heap.size + 1, 0, none⟩) 1 1] ((w.alloc (.cells #[.int .i64 2, .int .i64 1, .int .i64 0] 3)).alloc (.cells #[.slice (some ⟨w.heap.size, 0, none⟩) 3 3] 22)) fun e w' => ∃ a n c, e = .returned (.tuple #[.slice a n c, .int .i64 0]) ∧ Rows w' a n c [[0, 2], [1]] ∧ Below w.heap.size w w' := by
  refine (orbits_any 3 _ 1 1 _ _ (one_rows w 2 1 0)).mono ?_
  rintro e w1 ⟨a, n, c, rfl, hR, hB⟩
  rw [san_orb] at hR
  exact ⟨a, n, c, by rw [san_v3.2.1], hR, ((al _ _).on (al _ _)).on hB⟩
theorem c_clo0 (w : World) : Calls Try.prog 19 #[.int .i64 0, .slice none 0 0] w fun e w' => ∃ a n c, e = .returned (.tuple #[.slice a n c, .int .i64 0]) ∧ Rows w' a n c [[]] ∧ Below w.heap.size w w' := by
  refine (closure_any 0 none 0 0 [] w (Rows.nil w)).mono ?_
  rintro e w1 ⟨a, n, c, rfl, hR, hB⟩
  rw [san_clo.2.2.2.2.1] at hR
  exact ⟨a, n, c, by rw [san_clo.2.2.2.2.2], hR, hB⟩
theorem c_clo8 (w : World) : Calls Try.prog 19 #[.int .i64 8, .slice (some ⟨w.heap.size + 1 + 1, 0, none⟩) 2 2] (((w.alloc (.cells #[.int .i64 1, .int .i64 0, .int .i64 2, .int .i64 3, .int .i64 4, .int .i64 5, .int .i64 6, .int .i64 7] 3)).alloc (.cells #[.int .i64 1, .int .i64 2, .int .i64 3, .int .i64 4, .int .i64 5, .int .i64 6, .int .i64 7, .int .i64 0] 3)).alloc (.cells #[.slice (some ⟨w.heap.size, 0, none⟩) 8 8, .slice (some ⟨w.heap.size + 1, 0, none⟩) 8 8] 22)) fun e w' => ∃ v, e = .returned (.tuple #[v, .int .i64 2]) ∧ Below w.heap.size w w' := by
  have i1 := ((lit_ints w _ [1, 0, 2, 3, 4, 5, 6, 7] 8 rfl rfl (by omega)).below (al _ (.cells #[.int .i64 1, .int .i64 2, .int .i64 3, .int .i64 4, .int .i64 5, .int .i64 6, .int .i64 7, .int .i64 0] 3))).below (al _ (.cells #[.slice (some ⟨w.heap.size, 0, none⟩) 8 8, .slice (some ⟨w.heap.size + 1, 0, none⟩) 8 8] 22))
  have i2 := (lit_next (w := w) (o := (.cells #[.int .i64 1, .int .i64 0, .int .i64 2, .int .i64 3, .int .i64 4, .int .i64 5, .int .i64 6, .int .i64 7] 3)) (cs := #[.int .i64 1, .int .i64 2, .int .i64 3, .int .i64 4, .int .i64 5, .int .i64 6, .int .i64 7, .int .i64 0]) (l := [1, 2, 3, 4, 5, 6, 7, 0]) (n := 8) rfl rfl rfl (by omega)).below (al _ (.cells #[.slice (some ⟨w.heap.size, 0, none⟩) 8 8, .slice (some ⟨w.heap.size + 1, 0, none⟩) 8 8] 22))
  have bx := Box.new ((w.alloc (.cells #[.int .i64 1, .int .i64 0, .int .i64 2, .int .i64 3, .int .i64 4, .int .i64 5, .int .i64 6, .int .i64 7] 3)).alloc (.cells #[.int .i64 1, .int .i64 2, .int .i64 3, .int .i64 4, .int .i64 5, .int .i64 6, .int .i64 7, .int .i64 0] 3)) #[.slice (some ⟨w.heap.size, 0, none⟩) 8 8, .slice (some ⟨w.heap.size + 1, 0, none⟩) 8 8] 22
  rw [World.size_alloc, World.size_alloc] at bx
  have hR : Rows _ _ 2 2 [[1, 0, 2, 3, 4, 5, 6, 7], [1, 2, 3, 4, 5, 6, 7, 0]] := lit_rows (P := TT) bx ((Olds.one i1 fun _ _ _ => trivial).append (Olds.one i2 fun _ _ _ => trivial)) rfl (by omega)
  refine (closure_any 8 _ 2 2 _ _ hR).mono ?_
  rintro e w1 ⟨a, n, c, rfl, hR, hB⟩
  exact ⟨_, by rw [san_clo.2.2.2.1], (((al _ _).on (al _ _)).on (al _ _)).on hB⟩
theorem s_same {a : Option Addr} {c : Nat} {x y z : Int} {w0 : World} (w : World) (hI : Ints w0 a 3 c [x, y, z]) (hW : Below w0.heap.size w0 w) : Calls Try.prog 17 #[.slice a 3 c, .slice (some ⟨w.heap.size, 0, none⟩) 3 3] (w.alloc (.cells #[.int .i64 x, .int .i64 y, .int .i64 z] 3)) fun e w' => e = .returned (.bool true) ∧ Below (w.alloc (.cells #[.int .i64 x, .int .i64 y, .int .i64 z] 3)).heap.size (w.alloc (.cells #[.int .i64 x, .int .i64 y, .int .i64 z] 3)) w' ∧ Below w0.heap.size w0 w' := by
  have i1 := lit_ints w #[.int .i64 x, .int .i64 y, .int .i64 z] [x, y, z] 3 rfl rfl (by omega)
  refine (sameI_any a _ 3 c 3 3 _ _ _ ((hI.below hW).below (al _ _)) i1).mono ?_
  rintro e w' ⟨rfl, q, rfl⟩
  exact ⟨by simp, Below.drewN0 _ _, (hW.on (al _ _)).on (Below.drewN0 _ _)⟩
theorem s_all3 {a : Option Addr} {n c : Nat} {w0 : World} (w : World) (hR : Rows w0 a n c [[0, 1, 2], [1, 2, 0], [2, 0, 1]]) (hW : Below w0.heap.size w0 w) : Calls Try.prog 23 #[.slice a n c, .slice (some ⟨w.heap.size + 1 + 1 + 1, 0, none⟩) 3 3] ((((w.alloc (.cells #[.int .i64 0, .int .i64 1, .int .i64 2] 3)).alloc (.cells #[.int .i64 1, .int .i64 2, .int .i64 0] 3)).alloc (.cells #[.int .i64 2, .int .i64 0, .int .i64 1] 3)).alloc (.cells #[.slice (some ⟨w.heap.size, 0, none⟩) 3 3, .slice (some ⟨w.heap.size + 1, 0, none⟩) 3 3, .slice (some ⟨w.heap.size + 1 + 1, 0, none⟩) 3 3] 22)) fun e w' => e = .returned (.bool true) ∧ Below ((((w.alloc (.cells #[.int .i64 0, .int .i64 1, .int .i64 2] 3)).alloc (.cells #[.int .i64 1, .int .i64 2, .int .i64 0] 3)).alloc (.cells #[.int .i64 2, .int .i64 0, .int .i64 1] 3)).alloc (.cells #[.slice (some ⟨w.heap.size, 0, none⟩) 3 3, .slice (some ⟨w.heap.size + 1, 0, none⟩) 3 3, .slice (some ⟨w.heap.size + 1 + 1, 0, none⟩) 3 3] 22)).heap.size ((((w.alloc (.cells #[.int .i64 0, .int .i64 1, .int .i64 2] 3)).alloc (.cells #[.int .i64 1, .int .i64 2, .int .i64 0] 3)).alloc (.cells #[.int .i64 2, .int .i64 0, .int .i64 1] 3)).alloc (.cells #[.slice (some ⟨w.heap.size, 0, none⟩) 3 3, .slice (some ⟨w.heap.size + 1, 0, none⟩) 3 3, .slice (some ⟨w.heap.size + 1 + 1, 0, none⟩) 3 3] 22)) w' ∧ Below w0.heap.size w0 w' := by
  have ht := al (((w.alloc (.cells #[.int .i64 0, .int .i64 1, .int .i64 2] 3)).alloc (.cells #[.int .i64 1, .int .i64 2, .int .i64 0] 3)).alloc (.cells #[.int .i64 2, .int .i64 0, .int .i64 1] 3)) (.cells #[.slice (some ⟨w.heap.size, 0, none⟩) 3 3, .slice (some ⟨w.heap.size + 1, 0, none⟩) 3 3, .slice (some ⟨w.heap.size + 1 + 1, 0, none⟩) 3 3] 22)
  have i1 := (((lit_ints w _ [0, 1, 2] 3 rfl rfl (by omega)).below (al _ (.cells #[.int .i64 1, .int .i64 2, .int .i64 0] 3))).below (al _ (.cells #[.int .i64 2, .int .i64 0, .int .i64 1] 3))).below ht
  have i2 := ((lit_next (w := w) (o := (.cells #[.int .i64 0, .int .i64 1, .int .i64 2] 3)) (cs := #[.int .i64 1, .int .i64 2, .int .i64 0]) (l := [1, 2, 0]) (n := 3) rfl rfl rfl (by omega)).below (al _ (.cells #[.int .i64 2, .int .i64 0, .int .i64 1] 3))).below ht
  have i3 := (lit_next (w := w.alloc (.cells #[.int .i64 0, .int .i64 1, .int .i64 2] 3)) (o := (.cells #[.int .i64 1, .int .i64 2, .int .i64 0] 3)) (cs := #[.int .i64 2, .int .i64 0, .int .i64 1]) (l := [2, 0, 1]) (n := 3) (k := w.heap.size + 1 + 1) (by rw [World.size_alloc]) rfl rfl (by omega)).below ht
  have bx := Box.new (((w.alloc (.cells #[.int .i64 0, .int .i64 1, .int .i64 2] 3)).alloc (.cells #[.int .i64 1, .int .i64 2, .int .i64 0] 3)).alloc (.cells #[.int .i64 2, .int .i64 0, .int .i64 1] 3)) #[.slice (some ⟨w.heap.size, 0, none⟩) 3 3, .slice (some ⟨w.heap.size + 1, 0, none⟩) 3 3, .slice (some ⟨w.heap.size + 1 + 1, 0, none⟩) 3 3] 22
  rw [World.size_alloc, World.size_alloc, World.size_alloc] at bx
  have hR2 : Rows _ _ 3 3 [[0, 1, 2], [1, 2, 0], [2, 0, 1]] := lit_rows (P := TT) bx (((Olds.one i1 fun _ _ _ => trivial).append (Olds.one i2 fun _ _ _ => trivial)).append (Olds.one i3 fun _ _ _ => trivial)) rfl (by omega)
  have hb : Below w.heap.size w ((((w.alloc (.cells #[.int .i64 0, .int .i64 1, .int .i64 2] 3)).alloc (.cells #[.int .i64 1, .int .i64 2, .int .i64 0] 3)).alloc (.cells #[.int .i64 2, .int .i64 0, .int .i64 1] 3)).alloc (.cells #[.slice (some ⟨w.heap.size, 0, none⟩) 3 3, .slice (some ⟨w.heap.size + 1, 0, none⟩) 3 3, .slice (some ⟨w.heap.size + 1 + 1, 0, none⟩) 3 3] 22)) := (((al _ _).on (al _ _)).on (al _ _)).on ht
  refine (sameAll_any a _ n c 3 3 _ _ _ ((hR.below hW).below hb) hR2).mono ?_
  rintro e w' ⟨rfl, q, rfl⟩
  exact ⟨by simp, Below.drewN0 _ _, (hW.on hb).on (Below.drewN0 _ _)⟩
theorem s_all2 {a : Option Addr} {n c : Nat} {w0 : World} (w : World) (hR : Rows w0 a n c [[0, 2], [1]]) (hW : Below w0.heap.size w0 w) : Calls Try.prog 23 #[.slice a n c, .slice (some ⟨w.heap.size + 1 + 1, 0, none⟩) 2 2] (((w.alloc (.cells #[.int .i64 0, .int .i64 2] 3)).alloc (.cells #[.int .i64 1] 3)).alloc (.cells #[.slice (some ⟨w.heap.size, 0, none⟩) 2 2, .slice (some ⟨w.heap.size + 1, 0, none⟩) 1 1] 22)) fun e w' => e = .returned (.bool true) ∧ Below (((w.alloc (.cells #[.int .i64 0, .int .i64 2] 3)).alloc (.cells #[.int .i64 1] 3)).alloc (.cells #[.slice (some ⟨w.heap.size, 0, none⟩) 2 2, .slice (some ⟨w.heap.size + 1, 0, none⟩) 1 1] 22)).heap.size (((w.alloc (.cells #[.int .i64 0, .int .i64 2] 3)).alloc (.cells #[.int .i64 1] 3)).alloc (.cells #[.slice (some ⟨w.heap.size, 0, none⟩) 2 2, .slice (some ⟨w.heap.size + 1, 0, none⟩) 1 1] 22)) w' ∧ Below w0.heap.size w0 w' := by
  have ht := al ((w.alloc (.cells #[.int .i64 0, .int .i64 2] 3)).alloc (.cells #[.int .i64 1] 3)) (.cells #[.slice (some ⟨w.heap.size, 0, none⟩) 2 2, .slice (some ⟨w.heap.size + 1, 0, none⟩) 1 1] 22)
  have i1 := ((lit_ints w _ [0, 2] 2 rfl rfl (by omega)).below (al _ (.cells #[.int .i64 1] 3))).below ht
  have i2 := (lit_next (w := w) (o := .cells #[.int .i64 0, .int .i64 2] 3) (cs := #[.int .i64 1]) (l := [1]) (n := 1) rfl rfl rfl (by omega)).below ht
  have bx := Box.new ((w.alloc (.cells #[.int .i64 0, .int .i64 2] 3)).alloc (.cells #[.int .i64 1] 3)) #[.slice (some ⟨w.heap.size, 0, none⟩) 2 2, .slice (some ⟨w.heap.size + 1, 0, none⟩) 1 1] 22
  rw [World.size_alloc, World.size_alloc] at bx
  have hR2 : Rows _ _ 2 2 [[0, 2], [1]] := lit_rows (P := TT) bx ((Olds.one i1 fun _ _ _ => trivial).append (Olds.one i2 fun _ _ _ => trivial)) rfl (by omega)
  have hb : Below w.heap.size w (((w.alloc (.cells #[.int .i64 0, .int .i64 2] 3)).alloc (.cells #[.int .i64 1] 3)).alloc (.cells #[.slice (some ⟨w.heap.size, 0, none⟩) 2 2, .slice (some ⟨w.heap.size + 1, 0, none⟩) 1 1] 22)) := ((al _ _).on (al _ _)).on ht
  refine (sameAll_any a _ n c 2 2 _ _ _ ((hR.below hW).below hb) hR2).mono ?_
  rintro e w' ⟨rfl, q, rfl⟩
  exact ⟨by simp, Below.drewN0 _ _, (hW.on hb).on (Below.drewN0 _ _)⟩
theorem s_chk0 {w0 : World} (w : World) (hW : Below w0.heap.size w0 w) : Calls Try.prog 15 #[.slice none 0 0, .int .i64 0] w fun e w' => e = .returned (.int .i64 0) ∧ Below w.heap.size w w' ∧ Below w0.heap.size w0 w' := by
  refine (check_any none 0 0 [] 0 w (Ints.nil w)).mono ?_
  rintro e w' ⟨rfl, hB⟩
  exact ⟨by rw [san_comp.2.2.2.2.2.2.1], hB, hW.on hB⟩
theorem s_chk1 {w0 : World} (w : World) (hW : Below w0.heap.size w0 w) : Calls Try.prog 15 #[.slice none 0 0, .int .i64 (-1)] w fun e w' => e = .returned (.int .i64 1) ∧ Below w.heap.size w w' ∧ Below w0.heap.size w0 w' := by
  refine (check_any none 0 0 [] (-1) w (Ints.nil w)).mono ?_
  rintro e w' ⟨rfl, hB⟩
  exact ⟨by rw [san_comp.2.2.2.2.2.2.2.2], hB, hW.on hB⟩
theorem s_chk2 {w0 : World} (w : World) (hW : Below w0.heap.size w0 w) : Calls Try.prog 15 #[.slice (some ⟨w.heap.size, 0, none⟩) 2 2, .int .i64 2] (w.alloc (.cells #[.int .i64 0, .int .i64 0] 3)) fun e w' => e = .returned (.int .i64 110) ∧ Below (w.alloc (.cells #[.int .i64 0, .int .i64 0] 3)).heap.size (w.alloc (.cells #[.int .i64 0, .int .i64 0] 3)) w' ∧ Below w0.heap.size w0 w' := by
  refine (check_any _ 2 2 [0, 0] 2 _ (lit_ints w _ [0, 0] 2 rfl rfl (by omega))).mono ?_
  rintro e w' ⟨rfl, hB⟩
  exact ⟨by rw [san_comp.2.2.2.2.2.2.2.1], hB, (hW.on (al _ _)).on hB⟩
theorem keepN {w0 w w' : World} {b o : Nat} {v : Value} (h : w.cell? ⟨b, o, none⟩ = some v ∧ Below w0.heap.size w0 w) (hb : Below w.heap.size w w') : w'.cell? ⟨b, o, none⟩ = some v ∧ Below w0.heap.size w0 w' :=
  ⟨(hb.cell (p := ⟨b, o, none⟩) (World.block_lt_of_cell? w _ h.1)).trans h.1, h.2.on hb⟩
set_option maxRecDepth 40000 in
set_option maxHeartbeats 8000000 in
theorem sane11_any (W : World) : Calls Try.prog 10 #[] W fun e w' => e = .returned (.bool true) ∧ Below W.heap.size W w' := by
  go_enter Try.func10, Try.ntmps10
  go_wp2_with fail
  refine (c_comp1 W).mono ?_
  rintro e w1 ⟨ca, cc, rfl, hC, hB⟩
  go_wp2_with fail
  refine (c_comp2 w1).mono ?_
  rintro e w2 ⟨v2, rfl, hA⟩
  replace hB := hB.on hA
  replace hC := hC.below hA
  clear hA
  go_wp2_with fail
  refine (c_inv w2).mono ?_
  rintro e w3 ⟨qa, qc, rfl, hQ, hA⟩
  replace hB := hB.on hA
  replace hC := hC.below hA
  clear hA
  go_wp2_with fail
  refine (c_clo3 w3).mono ?_
  rintro e w4 ⟨la, ln, lc, rfl, hL, hA⟩
  replace hB := hB.on hA
  replace hC := hC.below hA
  replace hQ := hQ.below hA
  clear hA
  go_wp2_with fail
  refine (c_clo8 w4).mono ?_
  rintro e w5 ⟨v5, rfl, hA⟩
  replace hB := hB.on hA
  replace hC := hC.below hA
  replace hQ := hQ.below hA
  replace hL := hL.below hA
  clear hA
  go_wp2_with fail
  refine (c_clo0 w5).mono ?_
  rintro e w6 ⟨na, nn, nc, rfl, hN, hA⟩
  replace hB := hB.on hA
  replace hC := hC.below hA
  replace hQ := hQ.below hA
  replace hL := hL.below hA
  clear hA
  go_wp2_with fail
  refine (c_orb3 w6).mono ?_
  rintro e w7 ⟨oa, on, oc, rfl, hO, hA⟩
  replace hB := hB.on hA
  replace hC := hC.below hA
  replace hQ := hQ.below hA
  replace hL := hL.below hA
  replace hN := hN.below hA
  clear hA
  obtain rfl : 1 = nn := hN.len
  obtain ⟨nb, no, rfl, hnb⟩ := hN.at' (by omega)
  obtain ⟨ea, en, ec, hcell, hE⟩ := hN.get (i := 0) rfl
  obtain rfl : 0 = en := hE.len
  rw [Nat.add_zero] at hcell
  have HS1 := Lib.hid (fun (w : World) (hW : Below w7.heap.size w7 w) => s_same w hC hW)
  have HS2 := Lib.hid (fun (w : World) (hW : Below w7.heap.size w7 w) => s_same w hQ hW)
  have HS3 := Lib.hid (fun (w : World) (hW : Below w7.heap.size w7 w) => s_all3 w hL hW)
  have HS4 := Lib.hid (fun (w : World) (hW : Below w7.heap.size w7 w) => s_all2 w hO hW)
  clear hC hQ hL hO hN hE
  have hZ := Below.refl w7.heap.size w7
  go_wp2_with fail
  refine (HS1.out w7 hZ).mono ?_
  rintro e w8 ⟨rfl, hA, hZ⟩
  clear hA
  go_wp2_with fail
  refine (HS2.out w8 hZ).mono ?_
  rintro e w9 ⟨rfl, hA, hZ⟩
  clear hA
  go_wp2_with fail
  refine (HS3.out w9 hZ).mono ?_
  rintro e w10 ⟨rfl, hA, hZ⟩
  clear hA
  rw [← hZ.cell (p := ⟨nb, no, none⟩) (World.block_lt_of_cell? w7 _ hcell)] at hcell
  go_wp2_with fail
  refine (HS4.out w10 hZ).mono ?_
  rintro e w11 ⟨rfl, hA, hZ⟩
  clear hA
  go_wp2_with fail
  refine (s_chk0 w11 hZ).mono ?_
  rintro e w12 ⟨rfl, hA, hZ⟩
  clear hA
  go_wp2_with fail
  refine (s_chk2 w12 hZ).mono ?_
  rintro e w13 ⟨rfl, hA, hZ⟩
  clear hA
  go_wp2_with fail
  refine (s_chk1 w13 hZ).mono ?_
  rintro e w14 ⟨rfl, hA, hZ⟩
  clear hA
  go_wp2_with fail
  go_ret
  exact ⟨rfl, hB.on hZ⟩
end Go.Proofs.Ytkekkbbdhdamjaa
