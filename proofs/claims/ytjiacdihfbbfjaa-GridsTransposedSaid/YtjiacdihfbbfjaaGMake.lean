/- Contracts of grids.Make, grids.Check. -/
import Derived.Test.YtjiacdihfbbfjaaRefMake
import Derived.Test.YtjiacdihfbbfjaaSl
import Derived.Maps.AppendAt
import Derived.WalkKit
import Derived.WalkSpells
import Derived.WalkLawsBesides
import Derived.Deep.LoopGhost
import Derived.Deep.QuietTactic
import Derived.BigQuiet
import Derived.StillTailTactics
import Derived.Lib.Hide
import Derived.Outline
import Derived.Lib.QuietBelow
namespace Go.Proofs.Ytjiacdihfbbfjaa
open Go.RowKit

def lastOf (l : List Int) (k : Nat) : Int := if k = 0 then -1 else l[k - 1]?.getD 0
theorem lastOf_succ (l : List Int) (k : Nat) : lastOf l (k + 1) = l[k]?.getD 0 := by simp [lastOf]
theorem holesOk_step2 {l : List Int} {A : Int} {k : Nat} (hk : k < l.length) (h : holesOk l A k) (h1 : lastOf l k < l[k]?.getD 0) (h2 : l[k]?.getD 0 < A) : holesOk l A (k + 1) := by
  unfold lastOf at h1
  by_cases h0 : k = 0
  · subst h0; simp at h1
    exact holesOk_step hk h ⟨by omega, h2⟩ (.inl rfl)
  · rw [if_neg h0] at h1
    have := h.1 (l[k - 1]?.getD 0) (by
      obtain ⟨j, rfl⟩ : ∃ j, k = j + 1 := ⟨k - 1, by omega⟩
      rw [take_getD l j (by omega)]; simp)
    exact holesOk_step hk h ⟨by omega, h2⟩ (.inr h1)
theorem okHoles_last {l : List Int} {A : Int} (h : okHoles l A) {k : Nat} (hk : k < l.length) : lastOf l k < l[k]?.getD 0 ∧ l[k]?.getD 0 < A := by
  obtain ⟨h1, h2⟩ := okHoles_at h hk
  unfold lastOf
  split
  · exact ⟨by omega, h1.2⟩
  · exact ⟨h2 (by omega), h1.2⟩
theorem incr_le {l : List Int} (h : l.Pairwise (· < ·)) : l.Pairwise (· ≤ ·) := h.imp fun h => by omega
theorem retGrid_some' {W w' : World} {s w h : Int} {holes : List Int} {A : Nat} {a3 a4 : Option Addr} {n3 c3 n4 c4 : Nat} (hd : okDims s w h) (hh : okHoles holes A) (hA : w * h = A) (hl : holes.length < A)
    (h3 : Ints w' a3 n3 c3 holes) (h4 : Ints w' a4 n4 c4 (cellsUpto A holes)) (f3 : Fresh W.heap.size (.slice a3 n3 c3)) (f4 : Fresh W.heap.size (.slice a4 n4 c4)) (hb : Below W.heap.size W w') :
    RetGridE W (makeL s w h holes) (.returned (.tuple #[.agg #[.int .i64 s, .int .i64 w, .int .i64 h, .slice a3 n3 c3, .slice a4 n4 c4], .int .i64 0])) w' :=
  retGrid_some hd hh hA (fun e => (cells_nil_iff hh).1 (List.eq_nil_of_length_eq_zero e) hl) rfl rfl h3 h4 f3 f4 hb

/-- An own row whose value lies in a field of a box has grown, and its field is written; another row beside it. -/
theorem pair_stepX {W wr w1 : World} {q X base : Nat} {o : Obj} {xs : Array Value} {T e : TypeId} {v v' vn : Value} {l l' : List Int} {x : Int} (i : Nat)
    (hx : Box wr X xs T) (hX : W.heap.size ≤ X) (hXb : X < base) (hO : OwnInts wr base e v l) (hO' : OwnInts wr base e v' l') (hne : apartV v' v) (hB : Below W.heap.size W wr)
    (hown' : w1.ownsRow base e 1 vn (l.length + 1) (l.map (Value.int .i64) ++ [.int .i64 x])) (hg : ((wr.drewN q).alloc o).grownBy w1 v.ownBlock) (hfr : vn.ownBlock = v.ownBlock ∨ vn.ownBlock = some ((wr.drewN q).alloc o).heap.size) :
    Box (w1.setCell ⟨X, i, none⟩ vn) X (xs.setIfInBounds i vn) T ∧ OwnInts (w1.setCell ⟨X, i, none⟩ vn) base e v' l' ∧ OwnInts (w1.setCell ⟨X, i, none⟩ vn) base e vn (l ++ [x]) ∧ apartV v' vn ∧ Below W.heap.size W (w1.setCell ⟨X, i, none⟩ vn) := by
  have hsz := hx.lt
  have hn : ∀ k, v.ownBlock = some k → base ≤ k := fun k e => (hO.lt k e).1
  have hn' : ∀ k, v'.ownBlock = some k → base ≤ k ∧ k < wr.heap.size := fun k e => hO'.lt k e
  have hS : OwnInts w1 base e vn (l ++ [x]) := OwnInts.snoc hown'
  have hA : OwnInts ((wr.drewN q).alloc o) base e v' l' := World.ownsRow.alloc (ownsRow_drewN hO' q) o
  refine ⟨(((hx.drewN q).alloc o).grown hg (fun e => by have := hn _ e; omega)).set i vn, (hA.grown hg hne.ne).setOther _ (fun e => by have := hn' X e; omega), hS.setOther _ (fun e => by have := hS.lt X e; omega), ?_, ?_⟩
  · intro k e e'
    rcases hfr with h | h
    · rw [h] at e'; exact hne k e e'
    · rw [h] at e'
      have h2 := (hn' k e).2
      simp at e'
      omega
  · exact (((below_drewN hB q).alloc (by simp; omega) o).grown hg (by simp; omega) (fun k e => by have := hn k e; omega)).setCell hX _

theorem Box.set5 {w : World} {X : Nat} {T : TypeId} {a b c d e : Value} (h : Box w X #[a, b, c, d, e] T) (u0 u1 u2 u3 u4 : Value) :
    Box (((((w.setCell ⟨X, 0, none⟩ u0).setCell ⟨X, 1, none⟩ u1).setCell ⟨X, 2, none⟩ u2).setCell ⟨X, 3, none⟩ u3).setCell ⟨X, 4, none⟩ u4) X #[u0, u1, u2, u3, u4] T := by
  simpa using ((((h.set 0 u0).set 1 u1).set 2 u2).set 3 u3).set 4 u4
theorem OwnInts.set5 {w : World} {base X : Nat} {e : TypeId} {v : Value} {l : List Int} (h : OwnInts w base e v l) (hX : X < base) (u0 u1 u2 u3 u4 : Value) :
    OwnInts (((((w.setCell ⟨X, 0, none⟩ u0).setCell ⟨X, 1, none⟩ u1).setCell ⟨X, 2, none⟩ u2).setCell ⟨X, 3, none⟩ u3).setCell ⟨X, 4, none⟩ u4) base e v l :=
  have hne : v.ownBlock ≠ some X := fun e => by have := h.lt X e; omega
  ((((h.setOther u0 hne).setOther u1 hne).setOther u2 hne).setOther u3 hne).setOther u4 hne

set_option maxRecDepth 20000 in
set_option maxHeartbeats 2000000 in
theorem gridsMake_dims (s w h : Int) (a0 : Option Addr) (n0 c0 : Nat) (holes : List Int) (W : World) (hd : ¬ okDims s w h) :
    Calls Try.prog 38 #[.int .i64 s, .int .i64 w, .int .i64 h, .slice a0 n0 c0] W (RetGridE W (makeL s w h holes)) := by
  have HM := Lib.hid (makeL_dims (holes := holes) hd)
  unfold okDims at hd
  go_enter Try.func38, Try.ntmps38
  go_wp2_with fail
  all_goals
    refine bodyPost_ret (v := .tuple #[.agg #[.int .i64 0, .int .i64 0, .int .i64 0, .slice none 0 0, .slice none 0 0], .int .i64 130]) (by simp [results, Try.results38, go_sem]) rfl ?_
    have HM' := HM.out
    first
      | exact retGrid_none HM' ((Below.refl _ _).alloc (Nat.le_refl _) _)
      | (simp only [‹s = 1›] at HM'; exact retGrid_none HM' ((Below.refl _ _).alloc (Nat.le_refl _) _))
      | (simp only [‹s = 2›] at HM'; exact retGrid_none HM' ((Below.refl _ _).alloc (Nat.le_refl _) _))

set_option maxRecDepth 20000 in
set_option maxHeartbeats 4000000 in
theorem gridsMake_one (w h : Nat) (a0 : Option Addr) (n0 c0 : Nat) (holes : List Int) (W : World) (h0 : Ints W a0 n0 c0 holes) (hn : n0 ≤ 10000000) (hw : 1 ≤ w ∧ w ≤ 16) (hh : 1 ≤ h ∧ h ≤ 16) :
    Calls Try.prog 38 #[.int .i64 1, .int .i64 w, .int .i64 h, .slice a0 n0 c0] W (RetGridE W (makeL 1 w h holes)) := by
  have hm0 := h0.mx
  have hc0 := h0.cap
  have hl0 := Lib.hid h0.len
  obtain ⟨i3, hi3, hz30, hz31, hz32⟩ := info_parts info_int
  unfold maxLen at hm0
  obtain ⟨A, hA⟩ : ∃ A : Nat, w * h = A := ⟨_, rfl⟩
  have hA1 : (w : Int) * (h : Int) = (A : Int) := by rw [← hA]; simp
  have hA256 : A ≤ 256 := by rw [← hA]; exact Nat.mul_le_mul hw.2 hh.2
  have HA := Lib.hid hA
  clear hA
  by_cases hlen : n0 < A
  · go_enter Try.func38, Try.ntmps38
    go_wp2_with fail
    go_loopw [10, 12, 49] (fun l _ i wr => ∃ k : Nat, k ≤ n0 ∧ i = .int .i64 k ∧ l = .int .i64 (lastOf holes k) ∧ Hid (holesOk holes A k) ∧ wr = W.alloc (.cells #[.int .i64 0, .int .i64 0, .int .i64 0, .slice none 0 0, .slice none 0 0] 24)) (fun _ _ i _ => n0 - (intOf i).toNat)
    case atStart => exact ⟨0, by omega, rfl, rfl, Lib.hid (by simp [holesOk]), by trivial⟩
    case round =>
      obtain ⟨k, hk, rfl, rfl, HL, rfl⟩ := hrel
      by_cases hlt : k < n0
      · obtain ⟨b0, o0, rfl, hb0⟩ := h0.at' (by omega)
        have e0 := h0.cell _ _ rfl k hlt
        by_cases h1 : holes[k]?.getD 0 ≤ lastOf holes k
        · have HM := Lib.hid (makeL_holes (s := 1) (w := w) (h := h) (fun hh => by have := okHoles_last hh (k := k) (by rw [hl0.out]; omega); omega))
          go_wp2_with (go_quiet (fail))
          refine bodyPost_ret (v := .tuple #[.agg #[.int .i64 0, .int .i64 0, .int .i64 0, .slice none 0 0, .slice none 0 0], .int .i64 130]) (by simp [results, Try.results38, go_sem]) rfl ?_
          exact retGrid_none HM.out (by repeat (first | (with_reducible exact Below.refl _ _) | (with_reducible assumption) | (with_reducible refine below_drewN ?_ _) | ((with_reducible refine Below.setCell ?_ ?_ _); rotate_left; focus (first | (simp; done) | (simp; omega) | omega)) | ((with_reducible refine Below.alloc ?_ ?_ _); rotate_left; focus (first | (simp; done) | (simp; omega) | omega)) | (with_reducible refine Below.drew ?_)))
        by_cases h2 : (A : Int) ≤ holes[k]?.getD 0
        · have HM := Lib.hid (makeL_holes (s := 1) (w := w) (h := h) (fun hh => by rw [hA1] at hh; have := okHoles_last hh (k := k) (by rw [hl0.out]; omega); omega))
          go_wp2_with (go_quiet (fail))
          refine bodyPost_ret (v := .tuple #[.agg #[.int .i64 0, .int .i64 0, .int .i64 0, .slice none 0 0, .slice none 0 0], .int .i64 130]) (by simp [results, Try.results38, go_sem]) rfl ?_
          exact retGrid_none HM.out (by repeat (first | (with_reducible exact Below.refl _ _) | (with_reducible assumption) | (with_reducible refine below_drewN ?_ _) | ((with_reducible refine Below.setCell ?_ ?_ _); rotate_left; focus (first | (simp; done) | (simp; omega) | omega)) | ((with_reducible refine Below.alloc ?_ ?_ _); rotate_left; focus (first | (simp; done) | (simp; omega) | omega)) | (with_reducible refine Below.drew ?_)))
        have HK := Lib.hid (holesOk_step2 (l := holes) (A := A) (k := k) (by rw [hl0.out]; omega) HL.out (by omega) (by omega))
        go_wp2_with (go_quiet (fail))
        go_roundw
        case rel => exact ⟨k + 1, by omega, by go_num, by rw [lastOf_succ], HK, by trivial⟩
        case measure => simp [intOf]; omega
      · obtain rfl : n0 = k := by omega
        have HH := Lib.hid (holesOk_end (l := holes) (A := A) (by rw [hl0.out]; exact HL.out))
        clear HL
        go_wp2_with fail
        refine (clone_any a0 n0 c0 holes _ (h0.below ((Below.refl _ _).alloc (Nat.le_refl _) _)) (by omega)).mono ?_
        rintro e wc ⟨v3, rfl, hO3, hB3⟩
        obtain ⟨a3, c3, rfl, hI3⟩ := hO3.ints
        have hbx := (Box.new W #[.int .i64 0, .int .i64 0, .int .i64 0, .slice none 0 0, .slice none 0 0] 24).below hB3
        have z0 : wc.cell? ⟨W.heap.size, 0, none⟩ = some (.int .i64 0) := by simpa using hbx.cell 0
        have z1 : wc.cell? ⟨W.heap.size, 1, none⟩ = some (.int .i64 0) := by simpa using hbx.cell 1
        have z2 : wc.cell? ⟨W.heap.size, 2, none⟩ = some (.int .i64 0) := by simpa using hbx.cell 2
        have z3 : wc.cell? ⟨W.heap.size, 3, none⟩ = some (.slice none 0 0) := by simpa using hbx.cell 3
        have z4 : wc.cell? ⟨W.heap.size, 4, none⟩ = some (.slice none 0 0) := by simpa using hbx.cell 4
        have y0 := hbx.frozen 0
        have y1 := hbx.frozen 1
        have y2 := hbx.frozen 2
        have y3 := hbx.frozen 3
        have y4 := hbx.frozen 4
        have hO3' : OwnInts wc (W.heap.size + 1) 3 (.slice a3 holes.length c3) holes := by simpa using hO3
        have hB3' : Below W.heap.size W wc := ((Below.refl _ _).alloc (Nat.le_refl _) _).on hB3
        go_wp2_with fail
        go_loopw [13, 14, 15, 75] (fun _ _ _ i wr => ∃ (k : Nat) (v4 : Value), k ≤ A ∧ i = .int .i64 k ∧ Box wr W.heap.size #[.int .i64 1, .int .i64 w, .int .i64 h, .slice a3 holes.length c3, v4] 24 ∧ OwnInts wr (W.heap.size + 1) 3 (.slice a3 holes.length c3) holes ∧ OwnInts wr (W.heap.size + 1) 3 v4 (cellsUpto k holes) ∧ apartV (.slice a3 holes.length c3) v4 ∧ Below W.heap.size W wr) (fun _ _ _ i _ => A - (intOf i).toNat)
        case atStart => exact ⟨0, _, by omega, rfl, hbx.set5 _ _ _ _ _, hO3'.set5 (by omega) _ _ _ _ _, OwnInts.nil _ _ _, (apartV.nil _).symm, ((((hB3'.setCell (Nat.le_refl _) _).setCell (Nat.le_refl _) _).setCell (Nat.le_refl _) _).setCell (Nat.le_refl _) _).setCell (Nat.le_refl _) _⟩
        case round =>
          clear hO3' hB3' z0 z1 z2 z3 z4 y0 y1 y2 y3 y4 hbx hI3 hB3 hO3
          obtain ⟨k, v4, hk, rfl, hx, hO3, hO4, hne, hB⟩ := hrel
          have hsz := hx.lt
          have c4 : wr.cell? ⟨W.heap.size, 4, none⟩ = some v4 := by simpa using hx.cell 4
          have LC := cellsUpto_le k holes
          have hr4 : wr.ownsRow (W.heap.size + 1) 3 1 v4 (cellsUpto k holes).length ((cellsUpto k holes).map (Value.int .i64)) := hO4
          by_cases hlt : k < A
          · cases hi : inL holes k
            · have HI := Lib.hid hi
              go_wp2_with (first | (go_at_call 71; refine (bsearch_any _ _ _ _ _ _ (h0.below hB) (by omega) (incr_le HH.out.2)).mono ?_; rintro e w' ⟨rfl, q, rfl⟩) | ((at_builtin; refine wpList_append_own2 _ rfl _ _ 22 rfl (W.heap.size + 1) 3 i3 (.int .i64 0) 1 8 Try.underlying22 hi3 hz30 hz31 hz32 rfl (by decide) _ _ _ ((ownsRow_drewN hr4 _).alloc _) rfl ⟨_, 0, none⟩ 1 1 [.int .i64 (k : Int)] rfl rfl (cell_one_new _ _ _) (by simp [Value.oneCell']) (by unfold maxLen; omega) (by omega) (by first | omega | (simp; omega)) ?_; intro v' w1 hown' hgrow hfr); obtain ⟨a', c', rfl, _, _⟩ := own_slice hown'; have hx1 := ((hx.drewN q).alloc _).grown hgrow (fun e => by have := (hO4.lt _ e).1; omega); have d4 := hx1.cell 4; have f4 := hx1.frozen 4))
              obtain ⟨h2, h3, h4, h5, h6⟩ := pair_stepX 4 hx (Nat.le_refl _) (by omega) hO4 hO3 hne hB hown' hgrow hfr
              exact ⟨⟨k + 1, _, by omega, by go_num, by simpa using h2, h3, by rw [cellsUpto_succ, HI.out]; exact h4, h5, h6⟩, by simp [intOf]; omega⟩
            · have HI := Lib.hid hi
              go_wp2_with (go_at_call 71; refine (bsearch_any _ _ _ _ _ _ (h0.below hB) (by omega) (incr_le HH.out.2)).mono ?_; rintro e w' ⟨rfl, q, rfl⟩)
              go_roundw
              case rel => exact ⟨k + 1, v4, by omega, by go_num, hx.drewN _, hO3.drewN _, by rw [cellsUpto_succ, HI.out]; exact hO4.drewN _, hne, below_drewN hB _⟩
              case measure => simp [intOf]; omega
          · obtain rfl : A = k := by omega
            have d0 : wr.cell? ⟨W.heap.size, 0, none⟩ = some (.int .i64 1) := by simpa using hx.cell 0
            have d1 : wr.cell? ⟨W.heap.size, 1, none⟩ = some (.int .i64 w) := by simpa using hx.cell 1
            have d2 : wr.cell? ⟨W.heap.size, 2, none⟩ = some (.int .i64 h) := by simpa using hx.cell 2
            have d3 : wr.cell? ⟨W.heap.size, 3, none⟩ = some (.slice a3 holes.length c3) := by simpa using hx.cell 3
            obtain ⟨a4, c4', rfl, hI4⟩ := hO4.ints
            obtain ⟨a5, c5, e5, hI3⟩ := hO3.ints
            have y0 := hx.frozen 0
            have y1 := hx.frozen 1
            have y2 := hx.frozen 2
            have y3 := hx.frozen 3
            have y4 := hx.frozen 4
            injection e5 with e5 _ e6
            subst e5 e6
            go_wp2_with fail
            refine bodyPost_ret (v := .tuple #[.agg #[.int .i64 1, .int .i64 w, .int .i64 h, .slice a3 holes.length c3, .slice a4 (cellsUpto A holes).length c4'], .int .i64 0]) (by simp [results, Try.results38, go_sem, d0, d1, d2, d3, c4]) rfl ?_
            exact retGrid_some' (by unfold okDims; omega) HH.out hA1 (by rw [hl0.out]; omega) (hI3.set5 (fun e => by have := (hO3.lt _ e).1; omega) _ _ _ _ _) (hI4.set5 (fun e => by have := (hO4.lt _ e).1; omega) _ _ _ _ _) (fun k e => by have := (hO3.lt k e).1; omega) (fun k e => by have := (hO4.lt k e).1; omega) (by repeat (first | (with_reducible exact Below.refl _ _) | (with_reducible assumption) | (with_reducible refine below_drewN ?_ _) | ((with_reducible refine Below.setCell ?_ ?_ _); rotate_left; focus (first | (simp; done) | (simp; omega) | omega)) | ((with_reducible refine Below.alloc ?_ ?_ _); rotate_left; focus (first | (simp; done) | (simp; omega) | omega)) | (with_reducible refine Below.drew ?_)))
  · have HM := Lib.hid (makeL_len (s := 1) (w := w) (h := h) (holes := holes) (by rw [hA1, hl0.out]; omega))
    have tl : decide ((A : Int) ≤ (n0 : Int)) = true := by rw [decide_eq_true_eq]; omega
    go_enter Try.func38, Try.ntmps38
    go_wp2_with fail
    all_goals
      refine bodyPost_ret (v := .tuple #[.agg #[.int .i64 0, .int .i64 0, .int .i64 0, .slice none 0 0, .slice none 0 0], .int .i64 130]) (by simp [results, Try.results38, go_sem]) rfl ?_
      exact retGrid_none HM.out (by repeat (first | (with_reducible exact Below.refl _ _) | (with_reducible assumption) | (with_reducible refine below_drewN ?_ _) | ((with_reducible refine Below.setCell ?_ ?_ _); rotate_left; focus (first | (simp; done) | (simp; omega) | omega)) | ((with_reducible refine Below.alloc ?_ ?_ _); rotate_left; focus (first | (simp; done) | (simp; omega) | omega)) | (with_reducible refine Below.drew ?_)))
set_option maxRecDepth 20000 in
set_option maxHeartbeats 4000000 in
theorem gridsMake_two (w h : Nat) (a0 : Option Addr) (n0 c0 : Nat) (holes : List Int) (W : World) (h0 : Ints W a0 n0 c0 holes) (hn : n0 ≤ 10000000) (hw : 1 ≤ w ∧ w ≤ 16) (hh : 1 ≤ h ∧ h ≤ 16) :
    Calls Try.prog 38 #[.int .i64 2, .int .i64 w, .int .i64 h, .slice a0 n0 c0] W (RetGridE W (makeL 2 w h holes)) := by
  have hm0 := h0.mx
  have hc0 := h0.cap
  have hl0 := Lib.hid h0.len
  obtain ⟨i3, hi3, hz30, hz31, hz32⟩ := info_parts info_int
  unfold maxLen at hm0
  obtain ⟨A, hA⟩ : ∃ A : Nat, w * h = A := ⟨_, rfl⟩
  have hA1 : (w : Int) * (h : Int) = (A : Int) := by rw [← hA]; simp
  have hA256 : A ≤ 256 := by rw [← hA]; exact Nat.mul_le_mul hw.2 hh.2
  have HA := Lib.hid hA
  clear hA
  by_cases hlen : n0 < A
  · go_enter Try.func38, Try.ntmps38
    go_wp2_with fail
    go_loopw [10, 12, 49] (fun l _ i wr => ∃ k : Nat, k ≤ n0 ∧ i = .int .i64 k ∧ l = .int .i64 (lastOf holes k) ∧ Hid (holesOk holes A k) ∧ wr = W.alloc (.cells #[.int .i64 0, .int .i64 0, .int .i64 0, .slice none 0 0, .slice none 0 0] 24)) (fun _ _ i _ => n0 - (intOf i).toNat)
    case atStart => exact ⟨0, by omega, rfl, rfl, Lib.hid (by simp [holesOk]), by trivial⟩
    case round =>
      obtain ⟨k, hk, rfl, rfl, HL, rfl⟩ := hrel
      by_cases hlt : k < n0
      · obtain ⟨b0, o0, rfl, hb0⟩ := h0.at' (by omega)
        have e0 := h0.cell _ _ rfl k hlt
        by_cases h1 : holes[k]?.getD 0 ≤ lastOf holes k
        · have HM := Lib.hid (makeL_holes (s := 2) (w := w) (h := h) (fun hh => by have := okHoles_last hh (k := k) (by rw [hl0.out]; omega); omega))
          go_wp2_with (go_quiet (fail))
          refine bodyPost_ret (v := .tuple #[.agg #[.int .i64 0, .int .i64 0, .int .i64 0, .slice none 0 0, .slice none 0 0], .int .i64 130]) (by simp [results, Try.results38, go_sem]) rfl ?_
          exact retGrid_none HM.out (by repeat (first | (with_reducible exact Below.refl _ _) | (with_reducible assumption) | (with_reducible refine below_drewN ?_ _) | ((with_reducible refine Below.setCell ?_ ?_ _); rotate_left; focus (first | (simp; done) | (simp; omega) | omega)) | ((with_reducible refine Below.alloc ?_ ?_ _); rotate_left; focus (first | (simp; done) | (simp; omega) | omega)) | (with_reducible refine Below.drew ?_)))
        by_cases h2 : (A : Int) ≤ holes[k]?.getD 0
        · have HM := Lib.hid (makeL_holes (s := 2) (w := w) (h := h) (fun hh => by rw [hA1] at hh; have := okHoles_last hh (k := k) (by rw [hl0.out]; omega); omega))
          go_wp2_with (go_quiet (fail))
          refine bodyPost_ret (v := .tuple #[.agg #[.int .i64 0, .int .i64 0, .int .i64 0, .slice none 0 0, .slice none 0 0], .int .i64 130]) (by simp [results, Try.results38, go_sem]) rfl ?_
          exact retGrid_none HM.out (by repeat (first | (with_reducible exact Below.refl _ _) | (with_reducible assumption) | (with_reducible refine below_drewN ?_ _) | ((with_reducible refine Below.setCell ?_ ?_ _); rotate_left; focus (first | (simp; done) | (simp; omega) | omega)) | ((with_reducible refine Below.alloc ?_ ?_ _); rotate_left; focus (first | (simp; done) | (simp; omega) | omega)) | (with_reducible refine Below.drew ?_)))
        have HK := Lib.hid (holesOk_step2 (l := holes) (A := A) (k := k) (by rw [hl0.out]; omega) HL.out (by omega) (by omega))
        go_wp2_with (go_quiet (fail))
        go_roundw
        case rel => exact ⟨k + 1, by omega, by go_num, by rw [lastOf_succ], HK, by trivial⟩
        case measure => simp [intOf]; omega
      · obtain rfl : n0 = k := by omega
        have HH := Lib.hid (holesOk_end (l := holes) (A := A) (by rw [hl0.out]; exact HL.out))
        clear HL
        go_wp2_with fail
        refine (clone_any a0 n0 c0 holes _ (h0.below ((Below.refl _ _).alloc (Nat.le_refl _) _)) (by omega)).mono ?_
        rintro e wc ⟨v3, rfl, hO3, hB3⟩
        obtain ⟨a3, c3, rfl, hI3⟩ := hO3.ints
        have hbx := (Box.new W #[.int .i64 0, .int .i64 0, .int .i64 0, .slice none 0 0, .slice none 0 0] 24).below hB3
        have z0 : wc.cell? ⟨W.heap.size, 0, none⟩ = some (.int .i64 0) := by simpa using hbx.cell 0
        have z1 : wc.cell? ⟨W.heap.size, 1, none⟩ = some (.int .i64 0) := by simpa using hbx.cell 1
        have z2 : wc.cell? ⟨W.heap.size, 2, none⟩ = some (.int .i64 0) := by simpa using hbx.cell 2
        have z3 : wc.cell? ⟨W.heap.size, 3, none⟩ = some (.slice none 0 0) := by simpa using hbx.cell 3
        have z4 : wc.cell? ⟨W.heap.size, 4, none⟩ = some (.slice none 0 0) := by simpa using hbx.cell 4
        have y0 := hbx.frozen 0
        have y1 := hbx.frozen 1
        have y2 := hbx.frozen 2
        have y3 := hbx.frozen 3
        have y4 := hbx.frozen 4
        have hO3' : OwnInts wc (W.heap.size + 1) 3 (.slice a3 holes.length c3) holes := by simpa using hO3
        have hB3' : Below W.heap.size W wc := ((Below.refl _ _).alloc (Nat.le_refl _) _).on hB3
        go_wp2_with fail
        go_loopw [13, 14, 15, 75] (fun _ _ _ i wr => ∃ (k : Nat) (v4 : Value), k ≤ A ∧ i = .int .i64 k ∧ Box wr W.heap.size #[.int .i64 2, .int .i64 w, .int .i64 h, .slice a3 holes.length c3, v4] 24 ∧ OwnInts wr (W.heap.size + 1) 3 (.slice a3 holes.length c3) holes ∧ OwnInts wr (W.heap.size + 1) 3 v4 (cellsUpto k holes) ∧ apartV (.slice a3 holes.length c3) v4 ∧ Below W.heap.size W wr) (fun _ _ _ i _ => A - (intOf i).toNat)
        case atStart => exact ⟨0, _, by omega, rfl, hbx.set5 _ _ _ _ _, hO3'.set5 (by omega) _ _ _ _ _, OwnInts.nil _ _ _, (apartV.nil _).symm, ((((hB3'.setCell (Nat.le_refl _) _).setCell (Nat.le_refl _) _).setCell (Nat.le_refl _) _).setCell (Nat.le_refl _) _).setCell (Nat.le_refl _) _⟩
        case round =>
          clear hO3' hB3' z0 z1 z2 z3 z4 y0 y1 y2 y3 y4 hbx hI3 hB3 hO3
          obtain ⟨k, v4, hk, rfl, hx, hO3, hO4, hne, hB⟩ := hrel
          have hsz := hx.lt
          have c4 : wr.cell? ⟨W.heap.size, 4, none⟩ = some v4 := by simpa using hx.cell 4
          have LC := cellsUpto_le k holes
          have hr4 : wr.ownsRow (W.heap.size + 1) 3 1 v4 (cellsUpto k holes).length ((cellsUpto k holes).map (Value.int .i64)) := hO4
          by_cases hlt : k < A
          · cases hi : inL holes k
            · have HI := Lib.hid hi
              go_wp2_with (first | (go_at_call 71; refine (bsearch_any _ _ _ _ _ _ (h0.below hB) (by omega) (incr_le HH.out.2)).mono ?_; rintro e w' ⟨rfl, q, rfl⟩) | ((at_builtin; refine wpList_append_own2 _ rfl _ _ 22 rfl (W.heap.size + 1) 3 i3 (.int .i64 0) 1 8 Try.underlying22 hi3 hz30 hz31 hz32 rfl (by decide) _ _ _ ((ownsRow_drewN hr4 _).alloc _) rfl ⟨_, 0, none⟩ 1 1 [.int .i64 (k : Int)] rfl rfl (cell_one_new _ _ _) (by simp [Value.oneCell']) (by unfold maxLen; omega) (by omega) (by first | omega | (simp; omega)) ?_; intro v' w1 hown' hgrow hfr); obtain ⟨a', c', rfl, _, _⟩ := own_slice hown'; have hx1 := ((hx.drewN q).alloc _).grown hgrow (fun e => by have := (hO4.lt _ e).1; omega); have d4 := hx1.cell 4; have f4 := hx1.frozen 4))
              obtain ⟨h2, h3, h4, h5, h6⟩ := pair_stepX 4 hx (Nat.le_refl _) (by omega) hO4 hO3 hne hB hown' hgrow hfr
              exact ⟨⟨k + 1, _, by omega, by go_num, by simpa using h2, h3, by rw [cellsUpto_succ, HI.out]; exact h4, h5, h6⟩, by simp [intOf]; omega⟩
            · have HI := Lib.hid hi
              go_wp2_with (go_at_call 71; refine (bsearch_any _ _ _ _ _ _ (h0.below hB) (by omega) (incr_le HH.out.2)).mono ?_; rintro e w' ⟨rfl, q, rfl⟩)
              go_roundw
              case rel => exact ⟨k + 1, v4, by omega, by go_num, hx.drewN _, hO3.drewN _, by rw [cellsUpto_succ, HI.out]; exact hO4.drewN _, hne, below_drewN hB _⟩
              case measure => simp [intOf]; omega
          · obtain rfl : A = k := by omega
            have d0 : wr.cell? ⟨W.heap.size, 0, none⟩ = some (.int .i64 2) := by simpa using hx.cell 0
            have d1 : wr.cell? ⟨W.heap.size, 1, none⟩ = some (.int .i64 w) := by simpa using hx.cell 1
            have d2 : wr.cell? ⟨W.heap.size, 2, none⟩ = some (.int .i64 h) := by simpa using hx.cell 2
            have d3 : wr.cell? ⟨W.heap.size, 3, none⟩ = some (.slice a3 holes.length c3) := by simpa using hx.cell 3
            obtain ⟨a4, c4', rfl, hI4⟩ := hO4.ints
            obtain ⟨a5, c5, e5, hI3⟩ := hO3.ints
            have y0 := hx.frozen 0
            have y1 := hx.frozen 1
            have y2 := hx.frozen 2
            have y3 := hx.frozen 3
            have y4 := hx.frozen 4
            injection e5 with e5 _ e6
            subst e5 e6
            go_wp2_with fail
            refine bodyPost_ret (v := .tuple #[.agg #[.int .i64 2, .int .i64 w, .int .i64 h, .slice a3 holes.length c3, .slice a4 (cellsUpto A holes).length c4'], .int .i64 0]) (by simp [results, Try.results38, go_sem, d0, d1, d2, d3, c4]) rfl ?_
            exact retGrid_some' (by unfold okDims; omega) HH.out hA1 (by rw [hl0.out]; omega) (hI3.set5 (fun e => by have := (hO3.lt _ e).1; omega) _ _ _ _ _) (hI4.set5 (fun e => by have := (hO4.lt _ e).1; omega) _ _ _ _ _) (fun k e => by have := (hO3.lt k e).1; omega) (fun k e => by have := (hO4.lt k e).1; omega) (by repeat (first | (with_reducible exact Below.refl _ _) | (with_reducible assumption) | (with_reducible refine below_drewN ?_ _) | ((with_reducible refine Below.setCell ?_ ?_ _); rotate_left; focus (first | (simp; done) | (simp; omega) | omega)) | ((with_reducible refine Below.alloc ?_ ?_ _); rotate_left; focus (first | (simp; done) | (simp; omega) | omega)) | (with_reducible refine Below.drew ?_)))
  · have HM := Lib.hid (makeL_len (s := 2) (w := w) (h := h) (holes := holes) (by rw [hA1, hl0.out]; omega))
    have tl : decide ((A : Int) ≤ (n0 : Int)) = true := by rw [decide_eq_true_eq]; omega
    go_enter Try.func38, Try.ntmps38
    go_wp2_with fail
    all_goals
      refine bodyPost_ret (v := .tuple #[.agg #[.int .i64 0, .int .i64 0, .int .i64 0, .slice none 0 0, .slice none 0 0], .int .i64 130]) (by simp [results, Try.results38, go_sem]) rfl ?_
      exact retGrid_none HM.out (by repeat (first | (with_reducible exact Below.refl _ _) | (with_reducible assumption) | (with_reducible refine below_drewN ?_ _) | ((with_reducible refine Below.setCell ?_ ?_ _); rotate_left; focus (first | (simp; done) | (simp; omega) | omega)) | ((with_reducible refine Below.alloc ?_ ?_ _); rotate_left; focus (first | (simp; done) | (simp; omega) | omega)) | (with_reducible refine Below.drew ?_)))
theorem gridsMake_any (s w h : Int) (a0 : Option Addr) (n0 c0 : Nat) (holes : List Int) (W : World) (h0 : Ints W a0 n0 c0 holes) (hn : n0 ≤ 10000000) :
    Calls Try.prog 38 #[.int .i64 s, .int .i64 w, .int .i64 h, .slice a0 n0 c0] W (RetGridE W (makeL s w h holes)) := by
  by_cases hd : okDims s w h
  · obtain ⟨hs, h1, h2, h3, h4⟩ := hd
    obtain ⟨w, rfl⟩ : ∃ k : Nat, w = k := ⟨w.toNat, by omega⟩
    obtain ⟨h, rfl⟩ : ∃ k : Nat, h = k := ⟨h.toNat, by omega⟩
    rcases hs with rfl | rfl
    · exact gridsMake_one w h a0 n0 c0 holes W h0 hn (by omega) (by omega)
    · exact gridsMake_two w h a0 n0 c0 holes W h0 hn (by omega) (by omega)
  · exact gridsMake_dims s w h a0 n0 c0 holes W hd
end Go.Proofs.Ytjiacdihfbbfjaa
