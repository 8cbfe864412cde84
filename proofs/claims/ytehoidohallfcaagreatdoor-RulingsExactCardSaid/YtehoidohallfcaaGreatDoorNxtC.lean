/- Contract of ranking.possible. -/
import Derived.Test.YtehoidohallfcaaGreatDoorNxtB
import Derived.Test.YtehoidohallfcaaGreatDoorLxX
import Derived.WalkKit
import Derived.WalkSpells
import Derived.WalkLawsBesides
import Derived.Deep.LoopGhost
import Derived.Deep.QuietTactic
import Derived.BigQuiet
import Derived.StillTailTactics
import Derived.Lib.Hide
import Derived.Outline
import Derived.Lib.QuietBelow
namespace Go.Proofs.YtehoidohallfcaaGreatDoor
open Go.RowKit

theorem RowsB.mono {w : World} {base base' : Nat} {e : TypeId} {v : Value} {ll : List (List Int)} (h : RowsB w base e v ll) (hb : base' ≤ base) : RowsB w base' e v ll :=
  let ⟨us, h1, h2⟩ := h
  have key : ∀ {us ls}, ElemsB w base v.ownBlock us ls → ElemsB w base' v.ownBlock us ls := fun h => by
    induction h with
    | nil => exact .nil
    | cons h1 _ ih =>
      obtain ⟨a, n, c, e, hI, ho⟩ := h1
      exact .cons ⟨a, n, c, e, hI, fun hn => ⟨(ho hn).1, fun b e => Nat.le_trans hb ((ho hn).2 b e)⟩⟩ ih
  ⟨us, ownsRow_mono' h1 hb, key h2⟩
theorem RowsB.grown {w w' : World} {base : Nat} {e : TypeId} {v : Value} {ll : List (List Int)} {row : Option Nat} (h : RowsB w base e v ll) (hg : w.grownBy w' row) (hr : ∀ b, row = some b → b < base) : RowsB w' base e v ll := by
  have hlt := h.lt
  obtain ⟨us, h1, h2⟩ := h
  have hv : v.ownBlock = none ∨ v.ownBlock ≠ row := by
    cases hv : v.ownBlock with
    | none => exact .inl rfl
    | some b => exact .inr fun e2 => by have := hr b e2.symm; have := (hlt b hv).1; omega
  refine ⟨us, World.ownsRow.kept h1 hg hv, h2.mono fun x l ⟨a, n, c, e, hI, ho⟩ => ⟨a, n, c, e, hI.grown hg (fun hn e2 => ?_), ho⟩⟩
  · subst e
    obtain ⟨b, o, e3, _⟩ := hI.at' hn
    have h3 : (Value.slice a n c).ownBlock = some b := by rw [e3]; rfl
    have := hr b (by rw [← e2, h3])
    have := (ho hn).2 b h3
    omega
theorem tA_zero (n : Nat) : madeCells #[.int .i64 0] n = tA (List.replicate n 0) := by
  unfold tA
  rw [List.map_replicate]
  apply Array.ext
  · rw [size_madeCells]; simp
  · intro i h1 h2
    simp [madeCells, Nat.mod_one]
theorem make_tA (N : Nat) (hN : N ≤ 1000000) (w : World) : (Instr.makeSlice 22 (.int .i64 N) (.int .i64 N)).run Tryz.prog w = .ok (.slice (some ⟨w.heap.size, 0, none⟩) N N) (w.alloc (.cells (tA (List.replicate N 0)) 3)) := by
  obtain ⟨ib, hib, hb0, hb1, hb2⟩ := info_parts info_int
  have h := run_make (P := Tryz.prog) w 22 3 ib _ Tryz.underlying22 hib hb0 .i64 .i64 N N (by omega) (by omega) (by rw [hb2]; omega) (by omega)
  simp only [Int.toNat_natCast, hb1, Nat.mul_one] at h
  rw [← tA_zero]; exact h
theorem nxw_start (W : World) (sl so : Value) (m : Nat) : NxW ((((((W.alloc (.cells #[sl] 26)).alloc (.cells #[so] 22)).alloc (.cells #[.slice none 0 0] 106)).alloc (.cells (tA (List.replicate m 0)) 3)).alloc (.cells #[.slice (some ⟨W.heap.size + 3, 0, none⟩) m m] 22)).alloc (.cells #[.func (.func 117) #[] (capN W.heap.size)] 203)) W W.heap.size sl so m (.slice none 0 0) [] (List.replicate m 0) where
  b0 := (((((box_at W _ _ _ rfl).alloc _).alloc _).alloc _).alloc _).alloc _
  b1 := ((((box_at _ _ _ _ (by simp)).alloc _).alloc _).alloc _).alloc _
  b2 := (((box_at _ _ _ _ (by simp)).alloc _).alloc _).alloc _
  b3 := ((box_at _ _ _ _ (by simp)).alloc _).alloc _
  b4 := (box_at _ _ _ _ (by simp)).alloc _
  b5 := box_at _ _ _ _ (by simp)
  rows := RowsB.nil _ _ _
  len := List.length_replicate
  bel := (((((((Below.refl _ _).alloc (Nat.le_refl _) _).alloc (by simp) _).alloc (by simp; omega) _).alloc (by simp; omega) _).alloc (by simp; omega) _).alloc (by simp; omega) _)
theorem isP_rep (m : Nat) : ((List.range m).filter (isP (List.replicate m 0))).length = 0 := by
  rw [List.length_eq_zero_iff, List.filter_eq_nil_iff]
  intro i _
  unfold isP
  rw [rep_getD]; simp
set_option maxHeartbeats 4000000 in
theorem possible_any (al : Option Addr) (nl cl : Nat) (l : List Rs) (oa : Option Addr) (m oc : Nat) (own : List Int) (W : World)
    (h0 : SL encRs 6 W al nl cl l) (ho : Ints W oa m oc own) (hown : ∀ i ∈ own, 0 ≤ i ∧ i < l.length) (hiv : OkIv (ivOf l own)) (hm : m ≤ 8) (hc : (posL (ivOf l own)).length ≤ 4000) :
    Calls Tryz.prog 77 #[.slice al nl cl, .slice oa m oc] W fun e w' => ∃ v, e = .returned v ∧ RowsB w' W.heap.size 22 v (posL (ivOf l own)) ∧ Below W.heap.size W w' := by
  have hivl : (ivOf l own).length = m := by rw [ivOf_len, ho.len]
  have HPS : Hid (posL (ivOf l own) = nextP (ivOf l own) (m + 1) (List.replicate m 0) 0 0) := Lib.hid (by unfold posL; rw [hivl])
  have HN := next_any W al nl cl l oa m oc own h0 ho hown hiv hm (m + 1)
  have HC := Lib.hid (HN (List.replicate m 0) 0 0 _ _ [] (nxw_start W (.slice al nl cl) (.slice oa m oc) m) (isP_rep m).symm (by omega) (by omega) (by omega) (by rw [← HPS.out]; simpa using hc))
  have hmk := fun w => make_tA m (by omega) w
  clear HN hown hiv hc hivl h0 ho
  simp only [capN] at HC
  go_enter Tryz.func77, Tryz.ntmps77
  go_wp2_with fail
  refine HC.out.mono ?_
  rintro e w1 ⟨v1, u1, rfl, h1⟩
  have hR := h1.rows
  have hB := h1.bel
  rw [List.nil_append, ← HPS.out] at hR
  obtain ⟨av, cv, rfl, _⟩ := hR.rows.rows
  have hb2 := h1.b2
  obtain ⟨N, hN⟩ : ∃ N, (posL (ivOf l own)).length = N := ⟨_, rfl⟩
  have HR := Lib.hid hR
  rw [hN] at hb2 HR
  have c2 : w1.cell? ⟨W.heap.size + 1 + 1, 0, none⟩ = some (.slice av N cv) := by simpa using hb2.cell 0
  have f2 : w1.frozen? ⟨W.heap.size + 1 + 1, 0, none⟩ = false := hb2.frozen 0
  have l2 : W.heap.size + 1 + 1 < w1.heap.size := hb2.lt
  clear h1 hR hN hb2
  go_wp2_with fail
  have cs := World.cell?_setCell_same w1 ⟨W.heap.size + 1 + 1, 0, none⟩ (.slice av N cv) c2
  refine bodyPost_ret (v := .slice av N cv) (by simp [results, Tryz.results77, go_sem, cs]) rfl ?_
  exact ⟨_, rfl, (HR.out.set (by simp) _).mono (by omega), below_set hB (by omega) _⟩
end Go.Proofs.YtehoidohallfcaaGreatDoor

