/- Contracts on keys and on two facts: LessKey, compare. -/
import Derived.Test.YtfhekhjojdhmhaaFOne
import Derived.Deep.RegionHeld3
import Derived.WalkKit
import Derived.WalkSpells
import Derived.WalkLawsBesides
import Derived.Deep.LoopGhost
import Derived.Deep.QuietTactic
import Derived.BigQuiet
import Derived.StillTailTactics
import Derived.Lib.Hide
import Derived.Outline
import Derived.Lib.QuietBelow
namespace Go.Proofs.Ytfhekhjojdhmhaa
open Go.RowKit

set_option maxRecDepth 20000 in
set_option maxHeartbeats 2000000 in
theorem key_any (a b : Key) (W : World) : Calls Try.prog 57 #[keyV a, keyV b] W fun e w' => RetB W (.bool (lessK a b)) e w' := by
  go_enter Try.func57, Try.ntmps57
  go_wp2_with fail
  all_goals (go_ret; refine ⟨ret_bool ?_, (by repeat (first | (with_reducible exact Below.refl _ _) | (with_reducible assumption) | (with_reducible refine below_drewN ?_ _) | ((with_reducible refine Below.setCell ?_ ?_ _); rotate_left; focus (first | (simp; done) | (simp; omega) | omega)) | ((with_reducible refine Below.alloc ?_ ?_ _); rotate_left; focus (first | (simp; done) | (simp; omega) | omega)) | (with_reducible refine Below.drew ?_)))⟩; (rw [Bool.eq_iff_iff]; simp only [lessK, decide_eq_true_eq, bne_iff_ne, bne_eq_false_iff_eq, ne_eq] at *; omega))

/-- The first that is not zero, else zero. -/
def orL (l : List Int) : Int := (l.find? fun x => x != 0).getD 0
theorem orL_hit {l : List Int} {k : Nat} (hk : k < l.length) (h : ∀ x ∈ l.take k, x = 0) (hx : l[k]?.getD 0 ≠ 0) : orL l = l[k]?.getD 0 := by
  have e : l.find? (fun x => x != 0) = some (l[k]?.getD 0) := by
    have e1 : l = l.take k ++ (l[k]?.getD 0 :: l.drop (k + 1)) := by rw [← getD_drop l k hk, List.take_append_drop]
    generalize l[k]?.getD 0 = y at e1 hx
    rw [e1, List.find?_append, List.find?_eq_none.2 (by simpa using h)]
    simp [hx]
  unfold orL; rw [e]; rfl
theorem orL_none {l : List Int} {n : Nat} (hl : l.length = n) (h : ∀ x ∈ l.take n, x = 0) : orL l = 0 := by
  unfold orL
  rw [← hl, List.take_length] at h
  rw [List.find?_eq_none.2 (by simpa using h)]; rfl
set_option maxHeartbeats 400000 in
theorem or_any (a0 : Option Addr) (n0 c0 : Nat) (l : List Int) (w : World) (h0 : Ints w a0 n0 c0 l) :
    Calls Try.prog 50 #[.slice a0 n0 c0] w fun e w' => e = .returned (.int .i64 (orL l)) ∧ w' = w := by
  have hm0 := h0.mx
  have hc0 := h0.cap
  have hl0 := Lib.hid h0.len
  unfold maxLen at hm0
  go_enter Try.func50, Try.ntmps50
  go_wp2
  go_loopw [5, 8] (fun _ i wr => ∃ k : Nat, k ≤ n0 ∧ i = .int .i64 k ∧ Hid (∀ x ∈ l.take k, x = 0) ∧ wr = w) (fun _ i _ => n0 - (intOf i).toNat)
  case atStart => exact ⟨0, by omega, rfl, Lib.hid (by simp), rfl⟩
  case round =>
    obtain ⟨k, hk0, rfl, HL, rfl⟩ := hrel
    by_cases hlt : k < n0
    · obtain ⟨b0, o0, rfl, _⟩ := h0.at' (by omega)
      have e0 := h0.cell _ _ rfl k hlt
      by_cases hz : l[k]?.getD 0 = 0
      · have hz' : ((l[k]?.getD 0) != 0) = false := by simp [hz]
        have HZ := Lib.hid hz
        clear hz
        go_wp2_with fail
        go_roundw
        case rel =>
          refine ⟨k + 1, by omega, by go_num, Lib.hid ?_, trivial⟩
          rw [take_getD l k (by rw [hl0.out]; omega)]
          intro x hx
          rcases List.mem_append.1 hx with h | h
          · exact HL.out x h
          · rw [List.mem_singleton.1 h, HZ.out]
        case measure => simp [intOf]; omega
      · have hz' : ((l[k]?.getD 0) != 0) = true := by simp [hz]
        have HZ := Lib.hid hz
        clear hz
        go_wp2_with fail
        go_ret
        exact ⟨ret_int (orL_hit (by rw [hl0.out]; omega) HL.out HZ.out).symm, rfl⟩
    · obtain rfl : k = n0 := by omega
      go_wp2_with fail
      go_ret
      exact ⟨ret_int (orL_none hl0.out HL.out).symm, rfl⟩
/-- A fresh pair of ints. -/
theorem fresh2 (w : World) (x y : Int) (t : TypeId) : Ints (w.alloc (.cells #[.int .i64 x, .int .i64 y] t)) (some ⟨w.heap.size, 0, none⟩) 2 2 [x, y] where
  len := rfl
  cap := Nat.le_refl _
  mx := by simp [maxLen]
  at' := fun _ => ⟨_, _, rfl, by simp⟩
  cell := fun b o e i hi => by
    obtain ⟨rfl, rfl⟩ : w.heap.size = b ∧ 0 = o := by simpa using e
    have := (Box.new w #[.int .i64 x, .int .i64 y] t).cell (0 + i)
    rw [this]
    match i, hi with
    | 0, _ => rfl
    | 1, _ => rfl
theorem fresh2d (w : World) (x y : Int) (t : TypeId) : Ints (w.alloc (.cells #[.int .i64 x, .int .i64 y] t)).drew (some ⟨w.heap.size, 0, none⟩) 2 2 [x, y] := (fresh2 w x y t).below (Below.refl _ _).drew
theorem orL2 (x y : Int) : orL [x, y] = if x ≠ 0 then x else y := by
  unfold orL
  by_cases h : x = 0
  · by_cases h2 : y = 0 <;> simp [h, h2]
  · simp [h]

/-- Two pairs of cells stay as they are. -/
theorem keep4 {w0 w w' : World} {B C b1 b2 : Nat} {v0 v1 v2 v3 : Value} (h : w.cell? ⟨B, b1, none⟩ = some v0 ∧ w.cell? ⟨B, b2, none⟩ = some v1 ∧ w.cell? ⟨C, b1, none⟩ = some v2 ∧ w.cell? ⟨C, b2, none⟩ = some v3 ∧ Below w0.heap.size w0 w) (hb : Below w.heap.size w w') :
    w'.cell? ⟨B, b1, none⟩ = some v0 ∧ w'.cell? ⟨B, b2, none⟩ = some v1 ∧ w'.cell? ⟨C, b1, none⟩ = some v2 ∧ w'.cell? ⟨C, b2, none⟩ = some v3 ∧ Below w0.heap.size w0 w' := by
  obtain ⟨h0, h1, h2, h3, h7⟩ := h
  have l1 := World.block_lt_of_cell? w _ h0
  have l2 := World.block_lt_of_cell? w _ h2
  exact ⟨(hb.cell (p := ⟨B, b1, none⟩) l1).trans h0, (hb.cell (p := ⟨B, b2, none⟩) l1).trans h1, (hb.cell (p := ⟨C, b1, none⟩) l2).trans h2, (hb.cell (p := ⟨C, b2, none⟩) l2).trans h3, h7.on hb⟩
set_option maxRecDepth 20000 in
set_option maxHeartbeats 4000000 in
theorem compare_any (f g : Fact) (W : World) : Calls Try.prog 33 #[factV f, factV g] W fun e w' => RetB W (.int .i64 (cmpF f g)) e w' := by
  obtain ⟨w1, hw1⟩ : ∃ w1, (W.alloc (.cells #[.int .i64 f.kd, .int .i64 f.sb, .int .i64 f.ob, .int .i64 f.val, .int .i64 f.vf, .int .i64 f.vt, .int .i64 f.kn, .int .i64 f.no] 28)).alloc (.cells #[.int .i64 g.kd, .int .i64 g.sb, .int .i64 g.ob, .int .i64 g.val, .int .i64 g.vf, .int .i64 g.vt, .int .i64 g.kn, .int .i64 g.no] 28) = w1 := ⟨_, rfl⟩
  have hal : Below W.heap.size W w1 := by rw [← hw1]; exact (by repeat (first | (with_reducible exact Below.refl _ _) | (with_reducible assumption) | (with_reducible refine below_drewN ?_ _) | ((with_reducible refine Below.setCell ?_ ?_ _); rotate_left; focus (first | (simp; done) | (simp; omega) | omega)) | ((with_reducible refine Below.alloc ?_ ?_ _); rotate_left; focus (first | (simp; done) | (simp; omega) | omega)) | (with_reducible refine Below.drew ?_)))
  have hx0 : Box w1 W.heap.size #[.int .i64 f.kd, .int .i64 f.sb, .int .i64 f.ob, .int .i64 f.val, .int .i64 f.vf, .int .i64 f.vt, .int .i64 f.kn, .int .i64 f.no] 28 := by rw [← hw1]; exact (Box.new _ _ _).alloc _
  have hx1 : Box w1 (W.heap.size + 1) #[.int .i64 g.kd, .int .i64 g.sb, .int .i64 g.ob, .int .i64 g.val, .int .i64 g.vf, .int .i64 g.vt, .int .i64 g.kn, .int .i64 g.no] 28 := by rw [← hw1]; simpa using Box.new (W.alloc _) _ _
  have d0 : w1.cell? ⟨W.heap.size, 6, none⟩ = some (.int .i64 f.kn) := hx0.cell 6
  have d1 : w1.cell? ⟨W.heap.size, 7, none⟩ = some (.int .i64 f.no) := hx0.cell 7
  have d2 : w1.cell? ⟨W.heap.size + 1, 6, none⟩ = some (.int .i64 g.kn) := hx1.cell 6
  have d3 : w1.cell? ⟨W.heap.size + 1, 7, none⟩ = some (.int .i64 g.no) := hx1.cell 7
  clear hx0 hx1
  have HW := Lib.hid hw1
  clear hw1
  have HC : cmpF f g = orL [cmpI f.kn g.kn, cmpI f.no g.no] := by rw [orL2]; rfl
  rw [HC]
  clear HC
  go_enter Try.func33, Try.ntmps33
  go_wp2_with fail
  rw [HW.out]
  go_region_held3 (fun w' => w'.cell? ⟨W.heap.size, 6, none⟩ = some (.int .i64 f.kn) ∧ w'.cell? ⟨W.heap.size, 7, none⟩ = some (.int .i64 f.no) ∧ w'.cell? ⟨W.heap.size + 1, 6, none⟩ = some (.int .i64 g.kn) ∧ w'.cell? ⟨W.heap.size + 1, 7, none⟩ = some (.int .i64 g.no) ∧ Below w1.heap.size w1 w')
    (first | exact ⟨d0, d1, d2, d3, (Below.refl _ _).drew⟩ | assumption | exact keep4 (w0 := w1) (w := w1) ⟨d0, d1, d2, d3, Below.refl _ _⟩ (((Below.refl _ _).alloc (Nat.le_refl _) _).drew))
    (first | (go_at_call 51; refine (compareI_any _ _ _).mono ?_; rintro e w' ⟨rfl, rfl⟩) | (go_at_call 50; refine (or_any _ 2 2 [_, _] _ (fresh2d _ _ _ _)).mono ?_; rintro e w' ⟨rfl, rfl⟩))
  go_wp2_with fail
  go_ret
  exact ⟨rfl, hal.on (((Below.refl _ _).alloc (Nat.le_refl _) _).drew)⟩
end Go.Proofs.Ytfhekhjojdhmhaa
