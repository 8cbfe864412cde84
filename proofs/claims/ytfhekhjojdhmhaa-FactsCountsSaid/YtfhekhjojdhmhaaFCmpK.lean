/- Contract of facts.compareKeys, the world behind it said exactly. -/
import Derived.Test.YtfhekhjojdhmhaaFKeyM
import Derived.Deep.RegionHeld3
import Derived.Shelf.SlSortCmp.NoneTotal
import Derived.WalkKit
import Derived.WalkSpells
import Derived.WalkLawsBesides
import Derived.Deep.LoopGhost
import Derived.Deep.QuietTactic
import Derived.BigQuiet
import Derived.StillTailTactics
import Derived.Lib.Hide
import Derived.Outline
import Derived.Lib.QuietBelow
namespace Go.Proofs.Ytfhekhjojdhmhaa
open Go.RowKit Go.Lib

def cmpK (f g : Key) : Int := orL [cmpI f.kd g.kd, cmpI f.sb g.sb, cmpI f.ob g.ob]
theorem cmpK_lt (f g : Key) : decide (cmpK f g < 0) = lessK f g := by
  have h3 : ∀ a b c : Int, orL [a, b, c] = if a ≠ 0 then a else if b ≠ 0 then b else c := by
    intro a b c
    unfold orL
    by_cases h : a = 0
    · by_cases h2 : b = 0
      · by_cases h3 : c = 0 <;> simp [h, h2, h3]
      · simp [h, h2]
    · simp [h]
  unfold cmpK
  rw [h3]
  unfold cmpI lessK
  rw [Bool.eq_iff_iff]
  simp only [decide_eq_true_eq]
  repeat' split
  all_goals omega
theorem fresh3 (w : World) (x y z : Int) (t : TypeId) : Ints (w.alloc (.cells #[.int .i64 x, .int .i64 y, .int .i64 z] t)) (some ⟨w.heap.size, 0, none⟩) 3 3 [x, y, z] where
  len := rfl
  cap := Nat.le_refl _
  mx := by simp [maxLen]
  at' := fun _ => ⟨_, _, rfl, by simp⟩
  cell := fun b o e i hi => by
    obtain ⟨rfl, rfl⟩ : w.heap.size = b ∧ 0 = o := by simpa using e
    have := (Box.new w #[.int .i64 x, .int .i64 y, .int .i64 z] t).cell (0 + i)
    rw [this]
    match i, hi with
    | 0, _ => rfl
    | 1, _ => rfl
    | 2, _ => rfl
theorem fresh3d (w : World) (x y z : Int) (t : TypeId) : Ints (w.alloc (.cells #[.int .i64 x, .int .i64 y, .int .i64 z] t)).drew (some ⟨w.heap.size, 0, none⟩) 3 3 [x, y, z] := (fresh3 w x y z t).below (Below.refl _ _).drew

theorem grow3 (W : World) (A B C : Obj) : (((W.alloc A).alloc B).alloc C).drew = Sort.grow (W.drewN 1) #[A, B, C] := by
  rw [World.alloc, World.alloc, World.alloc]
  unfold Sort.grow
  have : (w : World) → w.drew = w.drewN 1 := fun w => rfl
  rw [this]
  show ({ W with heap := ((W.heap.push A).push B).push C, drawn := W.drawn + 1 } : World) = { W with heap := W.heap ++ #[A, B, C], drawn := W.drawn + 1 }
  congr 1
set_option maxRecDepth 20000 in
set_option maxHeartbeats 4000000 in
theorem compareKeys_any (f g : Key) (W : World) : Calls Try.prog 42 #[keyV f, keyV g] W fun e w' => e = .returned (.int .i64 (cmpK f g)) ∧ ∃ q os', w' = Sort.grow (W.drewN q) os' := by
  obtain ⟨w1, hw1⟩ : ∃ w1, (W.alloc (.cells #[.int .i64 f.kd, .int .i64 f.sb, .int .i64 f.ob] 24)).alloc (.cells #[.int .i64 g.kd, .int .i64 g.sb, .int .i64 g.ob] 24) = w1 := ⟨_, rfl⟩
  have hx0 : Box w1 W.heap.size #[.int .i64 f.kd, .int .i64 f.sb, .int .i64 f.ob] 24 := by rw [← hw1]; exact (Box.new _ _ _).alloc _
  have hx1 : Box w1 (W.heap.size + 1) #[.int .i64 g.kd, .int .i64 g.sb, .int .i64 g.ob] 24 := by rw [← hw1]; simpa using Box.new (W.alloc _) _ _
  have hS : (w1.cell? ⟨W.heap.size, 0, none⟩ = some (.int .i64 f.kd) ∧ w1.cell? ⟨W.heap.size, 1, none⟩ = some (.int .i64 f.sb) ∧ w1.cell? ⟨W.heap.size, 2, none⟩ = some (.int .i64 f.ob) ∧ w1.cell? ⟨W.heap.size + 1, 0, none⟩ = some (.int .i64 g.kd) ∧ w1.cell? ⟨W.heap.size + 1, 1, none⟩ = some (.int .i64 g.sb) ∧ w1.cell? ⟨W.heap.size + 1, 2, none⟩ = some (.int .i64 g.ob)) := ⟨by simpa using hx0.cell 0, by simpa using hx0.cell 1, by simpa using hx0.cell 2, by simpa using hx1.cell 0, by simpa using hx1.cell 1, by simpa using hx1.cell 2⟩
  have hS2 : ∀ o, ((w1.alloc o).drew.cell? ⟨W.heap.size, 0, none⟩ = some (.int .i64 f.kd) ∧ (w1.alloc o).drew.cell? ⟨W.heap.size, 1, none⟩ = some (.int .i64 f.sb) ∧ (w1.alloc o).drew.cell? ⟨W.heap.size, 2, none⟩ = some (.int .i64 f.ob) ∧ (w1.alloc o).drew.cell? ⟨W.heap.size + 1, 0, none⟩ = some (.int .i64 g.kd) ∧ (w1.alloc o).drew.cell? ⟨W.heap.size + 1, 1, none⟩ = some (.int .i64 g.sb) ∧ (w1.alloc o).drew.cell? ⟨W.heap.size + 1, 2, none⟩ = some (.int .i64 g.ob)) := by
    intro o
    have hb : Below w1.heap.size w1 (w1.alloc o).drew := ((Below.refl _ _).alloc (Nat.le_refl _) _).drew
    obtain ⟨h0, h1, h2, h3, h4, h5⟩ := hS
    have l0 := hx0.lt
    have l1 := hx1.lt
    exact ⟨(hb.cell (p := ⟨W.heap.size, 0, none⟩) l0).trans h0, (hb.cell (p := ⟨W.heap.size, 1, none⟩) l0).trans h1, (hb.cell (p := ⟨W.heap.size, 2, none⟩) l0).trans h2, (hb.cell (p := ⟨W.heap.size + 1, 0, none⟩) l1).trans h3, (hb.cell (p := ⟨W.heap.size + 1, 1, none⟩) l1).trans h4, (hb.cell (p := ⟨W.heap.size + 1, 2, none⟩) l1).trans h5⟩
  clear hx0 hx1
  have HW := Lib.hid hw1
  clear hw1
  unfold cmpK
  go_enter Try.func42, Try.ntmps42
  go_wp2_with fail
  rw [HW.out]
  go_region_held3 (fun w' => (w'.cell? ⟨W.heap.size, 0, none⟩ = some (.int .i64 f.kd) ∧ w'.cell? ⟨W.heap.size, 1, none⟩ = some (.int .i64 f.sb) ∧ w'.cell? ⟨W.heap.size, 2, none⟩ = some (.int .i64 f.ob) ∧ w'.cell? ⟨W.heap.size + 1, 0, none⟩ = some (.int .i64 g.kd) ∧ w'.cell? ⟨W.heap.size + 1, 1, none⟩ = some (.int .i64 g.sb) ∧ w'.cell? ⟨W.heap.size + 1, 2, none⟩ = some (.int .i64 g.ob)))
    (first | exact hS | assumption | exact hS2 _)
    (first | (go_at_call 51; refine (compareI_any _ _ _).mono ?_; rintro e w' ⟨rfl, rfl⟩) | (go_at_call 50; refine (or_any _ 3 3 [_, _, _] _ (fresh3d _ _ _ _ _)).mono ?_; rintro e w' ⟨rfl, rfl⟩))
  go_wp2_with fail
  go_ret
  refine ⟨rfl, ?_⟩
  rw [← HW.out]
  exact ⟨_, _, grow3 W _ _ _⟩
theorem ltOf_cmpK : ltOf cmpK = lessK := by
  funext x y
  exact cmpK_lt x y
theorem swo_cmpK : Sort.SWO (ltOf cmpK) := by
  rw [ltOf_cmpK]
  refine ⟨lessK_irrefl, fun x y z => lessK_trans, fun x y z h1 h2 => ?_⟩
  unfold lessK at *; rw [decide_eq_false_iff_not] at *; omega
end Go.Proofs.Ytfhekhjojdhmhaa
