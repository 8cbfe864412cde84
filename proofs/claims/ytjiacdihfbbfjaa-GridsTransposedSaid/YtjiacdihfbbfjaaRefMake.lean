/- Contract of the reference function ref13.Make. -/
import Derived.Test.YtjiacdihfbbfjaaRefX
import Derived.Test.YtjiacdihfbbfjaaGridM
import Derived.Maps.AppendAt
import Derived.WalkKit
import Derived.WalkSpells
import Derived.WalkLawsBesides
import Derived.Deep.LoopGhost
import Derived.Deep.QuietTactic
import Derived.BigQuiet
import Derived.StillTailTactics
import Derived.Lib.Hide
import Derived.Outline
import Derived.Lib.QuietBelow
namespace Go.Proofs.Ytjiacdihfbbfjaa
open Go.RowKit

theorem retGrid_none {W w' : World} {s w h : Int} {holes : List Int} (hm : makeL s w h holes = none) (hb : Below W.heap.size W w') : RetGridE W (makeL s w h holes) (.returned (.tuple #[.agg #[.int .i64 0, .int .i64 0, .int .i64 0, .slice none 0 0, .slice none 0 0], .int .i64 130])) w' := by
  rw [hm]; exact ⟨_, rfl, zeroGrid_F _ _, hb⟩

set_option maxRecDepth 20000 in
set_option maxHeartbeats 2000000 in
theorem refMake_dims (s w h : Int) (a0 : Option Addr) (n0 c0 : Nat) (holes : List Int) (W : World) (hd : ¬ okDims s w h) :
    Calls Try.prog 39 #[.int .i64 s, .int .i64 w, .int .i64 h, .slice a0 n0 c0] W (RetGridE W (makeL s w h holes)) := by
  have HM := Lib.hid (makeL_dims (holes := holes) hd)
  unfold okDims at hd
  go_enter Try.func39, Try.ntmps39
  go_wp2_with fail
  all_goals
    refine bodyPost_ret (v := .tuple #[.agg #[.int .i64 0, .int .i64 0, .int .i64 0, .slice none 0 0, .slice none 0 0], .int .i64 130]) (by simp [results, Try.results39, go_sem]) rfl ?_
    have HM' := HM.out
    first
      | exact retGrid_none HM' ((Below.refl _ _).alloc (Nat.le_refl _) _)
      | (simp only [‹s = 1›] at HM'; exact retGrid_none HM' ((Below.refl _ _).alloc (Nat.le_refl _) _))
      | (simp only [‹s = 2›] at HM'; exact retGrid_none HM' ((Below.refl _ _).alloc (Nat.le_refl _) _))

def apartV (v v' : Value) : Prop := ∀ k, v.ownBlock = some k → v'.ownBlock ≠ some k
theorem apartV.symm {v v' : Value} (h : apartV v v') : apartV v' v := fun k e e' => h k e' e
theorem apartV.ne {v v' : Value} (h : apartV v v') : v.ownBlock = none ∨ v.ownBlock ≠ v'.ownBlock := by
  cases hv : v.ownBlock with
  | none => exact .inl rfl
  | some k => exact .inr fun e => h k hv e.symm
theorem apartV.nil (v : Value) : apartV (.slice none 0 0) v := fun k e => by simp [Value.ownBlock] at e
/-- One of two own rows whose values lie in two fields of a box has grown, and its field is written. -/
theorem pair_step {W wr w1 : World} {q : Nat} {o : Obj} {zs xs : Array Value} {T e : TypeId} {v v' vn : Value} {l l' : List Int} {x : Int} (i : Nat)
    (hz : Box wr W.heap.size zs T) (hx : Box wr (W.heap.size + 1) xs T) (hO : OwnInts wr (W.heap.size + 2) e v l) (hO' : OwnInts wr (W.heap.size + 2) e v' l')
    (hne : apartV v' v) (hB : Below W.heap.size W wr)
    (hown' : w1.ownsRow (W.heap.size + 2) e 1 vn (l.length + 1) (l.map (Value.int .i64) ++ [.int .i64 x])) (hg : ((wr.drewN q).alloc o).grownBy w1 v.ownBlock) (hfr : vn.ownBlock = v.ownBlock ∨ vn.ownBlock = some ((wr.drewN q).alloc o).heap.size) :
    Box (w1.setCell ⟨W.heap.size + 1, i, none⟩ vn) W.heap.size zs T ∧ Box (w1.setCell ⟨W.heap.size + 1, i, none⟩ vn) (W.heap.size + 1) (xs.setIfInBounds i vn) T ∧
    OwnInts (w1.setCell ⟨W.heap.size + 1, i, none⟩ vn) (W.heap.size + 2) e v' l' ∧ OwnInts (w1.setCell ⟨W.heap.size + 1, i, none⟩ vn) (W.heap.size + 2) e vn (l ++ [x]) ∧
    apartV v' vn ∧ Below W.heap.size W (w1.setCell ⟨W.heap.size + 1, i, none⟩ vn) := by
  have hsz := hx.lt
  have hn : ∀ k, v.ownBlock = some k → W.heap.size + 2 ≤ k := fun k e => (hO.lt k e).1
  have hn' : ∀ k, v'.ownBlock = some k → W.heap.size + 2 ≤ k ∧ k < wr.heap.size := fun k e => hO'.lt k e
  have hS : OwnInts w1 (W.heap.size + 2) e vn (l ++ [x]) := OwnInts.snoc hown'
  have hA : OwnInts ((wr.drewN q).alloc o) (W.heap.size + 2) e v' l' := World.ownsRow.alloc (ownsRow_drewN hO' q) o
  refine ⟨(((hz.drewN q).alloc o).grown hg (fun e => by have := hn _ e; omega)).setOther _ (by simp), (((hx.drewN q).alloc o).grown hg (fun e => by have := hn _ e; omega)).set i vn,
    (hA.grown hg hne.ne).setOther _ (fun e => by have := hn' _ e; simp at this), hS.setOther _ (fun e => by have := hS.lt _ e; simp at this), ?_, ?_⟩
  · intro k e e'
    rcases hfr with h | h
    · rw [h] at e'; exact hne k e e'
    · rw [h] at e'
      have h2 := (hn' k e).2
      simp at e'
      omega
  · exact (((below_drewN hB q).alloc (by simp; omega) o).grown hg (by simp; omega) (fun k e => by have := hn k e; omega)).setCell (by simp) _

theorem retGrid_some {W w' : World} {s w h : Int} {holes hs cs : List Int} {A : Nat} {a3 a4 : Option Addr} {n3 c3 n4 c4 : Nat} (hd : okDims s w h) (hh : okHoles holes A) (hA : w * h = A) (hl : (cellsUpto A holes).length ≠ 0) (e3 : hs = holes) (e4 : cs = cellsUpto A holes)
    (h3 : Ints w' a3 n3 c3 hs) (h4 : Ints w' a4 n4 c4 cs) (f3 : Fresh W.heap.size (.slice a3 n3 c3)) (f4 : Fresh W.heap.size (.slice a4 n4 c4)) (hb : Below W.heap.size W w') :
    RetGridE W (makeL s w h holes) (.returned (.tuple #[.agg #[.int .i64 s, .int .i64 w, .int .i64 h, .slice a3 n3 c3, .slice a4 n4 c4], .int .i64 0])) w' := by
  subst e3 e4
  have hlt : hs.length < A := by
    rcases Nat.lt_or_ge hs.length A with h | h
    · exact h
    · exact absurd (by rw [(cells_nil_iff hh).2 (by omega)]; rfl) hl
  have hm : makeL s w h hs = some ⟨s, w, h, hs, cellsUpto A hs⟩ := by
    unfold makeL; rw [hA, if_pos ⟨hd, hh, by omega⟩]; rfl
  rw [hm]
  exact ⟨_, rfl, ⟨_, _, _, _, _, _, rfl, h3, h4, f3, f4⟩, hb⟩

/-- Up to k the holes are in range, and increasing. -/
def holesOk (l : List Int) (A : Int) (k : Nat) : Prop := (∀ x ∈ l.take k, 0 ≤ x ∧ x < A) ∧ (l.take k).Pairwise (· < ·)
theorem holesOk_end {l : List Int} {A : Int} (h : holesOk l A l.length) : okHoles l A := by
  unfold holesOk at h; rw [List.take_of_length_le (Nat.le_refl _)] at h; exact h
theorem holesOk_step {l : List Int} {A : Int} {k : Nat} (hk : k < l.length) (h : holesOk l A k) (h1 : 0 ≤ l[k]?.getD 0 ∧ l[k]?.getD 0 < A) (h2 : k = 0 ∨ l[k - 1]?.getD 0 < l[k]?.getD 0) : holesOk l A (k + 1) := by
  unfold holesOk at *
  rw [take_getD l k hk]
  refine ⟨fun x hx => ?_, ?_⟩
  · rcases List.mem_append.1 hx with hx | hx
    · exact h.1 x hx
    · rw [List.mem_singleton.1 hx]; exact h1
  · rw [List.pairwise_append]
    refine ⟨h.2, by simp, fun a ha b hb => ?_⟩
    rw [List.mem_singleton.1 hb]
    rcases h2 with h2 | h2
    · subst h2; simp at ha
    · cases k with
      | zero => simp at ha
      | succ k =>
        rw [take_getD l k (by omega)] at ha
        have h3 := h.2
        rw [take_getD l k (by omega), List.pairwise_append] at h3
        simp only [Nat.add_sub_cancel] at h2
        rcases List.mem_append.1 ha with ha | ha
        · have := h3.2.2 a ha _ (List.mem_singleton.2 rfl); omega
        · rw [List.mem_singleton.1 ha]; exact h2
theorem okHoles_at {l : List Int} {A : Int} (h : okHoles l A) {k : Nat} (hk : k < l.length) : (0 ≤ l[k]?.getD 0 ∧ l[k]?.getD 0 < A) ∧ (0 < k → l[k - 1]?.getD 0 < l[k]?.getD 0) := by
  refine ⟨h.1 _ (getD_mem l k hk), fun h0 => ?_⟩
  have := List.pairwise_iff_getElem.1 h.2 (k - 1) k (by omega) hk (by omega)
  rw [List.getElem?_eq_getElem hk, List.getElem?_eq_getElem (by omega : k - 1 < l.length)]
  exact this

set_option maxRecDepth 20000 in
set_option maxHeartbeats 4000000 in
theorem refMake_one (w h : Nat) (a0 : Option Addr) (n0 c0 : Nat) (holes : List Int) (W : World) (h0 : Ints W a0 n0 c0 holes) (hw : 1 ≤ w ∧ w ≤ 16) (hh : 1 ≤ h ∧ h ≤ 16) :
    Calls Try.prog 39 #[.int .i64 1, .int .i64 w, .int .i64 h, .slice a0 n0 c0] W (RetGridE W (makeL 1 w h holes)) := by
  have hm0 := h0.mx
  have hc0 := h0.cap
  have hl0 := Lib.hid h0.len
  obtain ⟨i3, hi3, hz30, hz31, hz32⟩ := info_parts info_int
  unfold maxLen at hm0
  obtain ⟨A, hA⟩ : ∃ A : Nat, w * h = A := ⟨_, rfl⟩
  have hA1 : (w : Int) * (h : Int) = (A : Int) := by rw [← hA]; simp
  have hA256 : A ≤ 256 := by rw [← hA]; exact Nat.mul_le_mul hw.2 hh.2
  have HA := Lib.hid hA
  clear hA
  go_enter Try.func39, Try.ntmps39
  go_wp2_with fail
  go_loopw [10] (fun i wr => ∃ k : Nat, k ≤ n0 ∧ i = .int .i64 k ∧ Hid (holesOk holes A k) ∧ ∃ q, wr = (W.alloc (.cells #[.int .i64 0, .int .i64 0, .int .i64 0, .slice none 0 0, .slice none 0 0] 24)).drewN q) (fun i _ => n0 - (intOf i).toNat)
  case atStart => exact ⟨0, by omega, rfl, Lib.hid (by simp [holesOk]), 0, rfl⟩
  case round =>
    obtain ⟨k, hk, rfl, HL, q, rfl⟩ := hrel
    by_cases hlt : k < n0
    · obtain ⟨b0, o0, rfl, hb0⟩ := h0.at' (by omega)
      have e0 := h0.cell _ _ rfl k hlt
      by_cases h1 : holes[k]?.getD 0 < 0
      · have HM := Lib.hid (makeL_holes (s := 1) (w := w) (h := h) (fun hh => by have := okHoles_at hh (k := k) (by rw [hl0.out]; omega); omega))
        go_wp2_with (go_quiet (fail))
        refine bodyPost_ret (v := .tuple #[.agg #[.int .i64 0, .int .i64 0, .int .i64 0, .slice none 0 0, .slice none 0 0], .int .i64 130]) (by simp [results, Try.results39, go_sem]) rfl ?_
        exact retGrid_none HM.out (by repeat (first | (with_reducible exact Below.refl _ _) | (with_reducible assumption) | (with_reducible refine below_drewN ?_ _) | ((with_reducible refine Below.setCell ?_ ?_ _); rotate_left; focus (first | (simp; done) | (simp; omega) | omega)) | ((with_reducible refine Below.alloc ?_ ?_ _); rotate_left; focus (first | (simp; done) | (simp; omega) | omega)) | (with_reducible refine Below.drew ?_)))
      by_cases h2 : (A : Int) ≤ holes[k]?.getD 0
      · have HM := Lib.hid (makeL_holes (s := 1) (w := w) (h := h) (fun hh => by rw [hA1] at hh; have := okHoles_at hh (k := k) (by rw [hl0.out]; omega); omega))
        go_wp2_with (go_quiet (fail))
        refine bodyPost_ret (v := .tuple #[.agg #[.int .i64 0, .int .i64 0, .int .i64 0, .slice none 0 0, .slice none 0 0], .int .i64 130]) (by simp [results, Try.results39, go_sem]) rfl ?_
        exact retGrid_none HM.out (by repeat (first | (with_reducible exact Below.refl _ _) | (with_reducible assumption) | (with_reducible refine below_drewN ?_ _) | ((with_reducible refine Below.setCell ?_ ?_ _); rotate_left; focus (first | (simp; done) | (simp; omega) | omega)) | ((with_reducible refine Below.alloc ?_ ?_ _); rotate_left; focus (first | (simp; done) | (simp; omega) | omega)) | (with_reducible refine Below.drew ?_)))
      have HK := Lib.hid (holesOk_step (l := holes) (A := A) (k := k) (by rw [hl0.out]; omega))
      by_cases h3 : 0 < k
      · have e1 := h0.cell _ _ rfl (k - 1) (by omega)
        by_cases h4 : holes[k]?.getD 0 ≤ holes[k - 1]?.getD 0
        · have HM := Lib.hid (makeL_holes (s := 1) (w := w) (h := h) (fun hh => by have := okHoles_at hh (k := k) (by rw [hl0.out]; omega); omega))
          go_wp2_with (go_quiet (fail))
          refine bodyPost_ret (v := .tuple #[.agg #[.int .i64 0, .int .i64 0, .int .i64 0, .slice none 0 0, .slice none 0 0], .int .i64 130]) (by simp [results, Try.results39, go_sem]) rfl ?_
          exact retGrid_none HM.out (by repeat (first | (with_reducible exact Below.refl _ _) | (with_reducible assumption) | (with_reducible refine below_drewN ?_ _) | ((with_reducible refine Below.setCell ?_ ?_ _); rotate_left; focus (first | (simp; done) | (simp; omega) | omega)) | ((with_reducible refine Below.alloc ?_ ?_ _); rotate_left; focus (first | (simp; done) | (simp; omega) | omega)) | (with_reducible refine Below.drew ?_)))
        · go_wp2_with (go_quiet (fail))
          go_roundw
          case rel => exact ⟨k + 1, by omega, by go_num, Lib.hid (HK.out HL.out ⟨by omega, by omega⟩ (.inr (by omega))), (by first | exact ⟨_, rfl⟩ | exact ⟨_, World.drewN_drewN⟩ | exact ⟨0, rfl⟩ | exact ⟨_, by simp only [World.drewN_drewN]; rfl⟩)⟩
          case measure => simp [intOf]; omega
      · obtain rfl : k = 0 := by omega
        simp only [Nat.add_zero] at e0
        go_wp2_with (go_quiet (fail))
        go_roundw
        case rel => exact ⟨1, by omega, by go_num, Lib.hid (HK.out HL.out ⟨by omega, by omega⟩ (.inl rfl)), (by first | exact ⟨_, rfl⟩ | exact ⟨_, World.drewN_drewN⟩ | exact ⟨0, rfl⟩ | exact ⟨_, by simp only [World.drewN_drewN]; rfl⟩)⟩
        case measure => simp [intOf]; omega
    · obtain rfl : n0 = k := by omega
      have HH := Lib.hid (holesOk_end (l := holes) (A := A) (by rw [hl0.out]; exact HL.out))
      clear HL
      go_wp2_with fail
      go_loopw [12] (fun i wr => ∃ (k : Nat) (v3 v4 : Value), k ≤ A ∧ i = .int .i64 k ∧ Box wr W.heap.size #[.int .i64 0, .int .i64 0, .int .i64 0, .slice none 0 0, .slice none 0 0] 24 ∧ Box wr (W.heap.size + 1) #[.int .i64 1, .int .i64 w, .int .i64 h, v3, v4] 24 ∧ OwnInts wr (W.heap.size + 2) 3 v3 (holesUpto k holes) ∧ OwnInts wr (W.heap.size + 2) 3 v4 (cellsUpto k holes) ∧ apartV v3 v4 ∧ Below W.heap.size W wr) (fun i _ => A - (intOf i).toNat)
      case atStart => exact ⟨0, _, _, by omega, rfl, (Box.new _ _ _).alloc _, by simpa using Box.new ((W.alloc (.cells #[.int .i64 0, .int .i64 0, .int .i64 0, .slice none 0 0, .slice none 0 0] 24)).drewN q) _ _, OwnInts.nil _ _ _, OwnInts.nil _ _ _, apartV.nil _, (by repeat (first | (with_reducible exact Below.refl _ _) | (with_reducible assumption) | (with_reducible refine below_drewN ?_ _) | ((with_reducible refine Below.setCell ?_ ?_ _); rotate_left; focus (first | (simp; done) | (simp; omega) | omega)) | ((with_reducible refine Below.alloc ?_ ?_ _); rotate_left; focus (first | (simp; done) | (simp; omega) | omega)) | (with_reducible refine Below.drew ?_)))⟩
      case round =>
        obtain ⟨k, v3, v4, hk, rfl, hz, hx, hO3, hO4, hne, hB⟩ := hrel
        have hsz := hx.lt
        have c3 : wr.cell? ⟨W.heap.size + 1, 3, none⟩ = some v3 := by simpa using hx.cell 3
        have c4 : wr.cell? ⟨W.heap.size + 1, 4, none⟩ = some v4 := by simpa using hx.cell 4
        have LH := holesUpto_le k holes
        have LC := cellsUpto_le k holes
        by_cases hlt : k < A
        · have hr3 : wr.ownsRow (W.heap.size + 2) 3 1 v3 (holesUpto k holes).length ((holesUpto k holes).map (Value.int .i64)) := hO3
          have hr4 : wr.ownsRow (W.heap.size + 2) 3 1 v4 (cellsUpto k holes).length ((cellsUpto k holes).map (Value.int .i64)) := hO4
          cases hi : inL holes k
          · have HI := Lib.hid hi
            go_wp2_with (first | (go_at_call 72; refine (in13_any _ _ _ _ _ _ (h0.below hB)).mono ?_; rintro e w' ⟨rfl, q, rfl⟩) | ((at_builtin; refine wpList_append_own2 _ rfl _ _ 22 rfl (W.heap.size + 2) 3 i3 (.int .i64 0) 1 8 Try.underlying22 hi3 hz30 hz31 hz32 rfl (by decide) _ _ _ ((ownsRow_drewN hr4 _).alloc _) rfl ⟨_, 0, none⟩ 1 1 [.int .i64 (k : Int)] rfl rfl (cell_one_new _ _ _) (by simp [Value.oneCell']) (by unfold maxLen; omega) (by omega) (by first | omega | (simp; omega)) ?_; intro v' w1 hown' hgrow hfr); obtain ⟨a', c', rfl, _, _⟩ := own_slice hown'; have hx1 := ((hx.drewN q).alloc _).grown hgrow (fun e => by have := (hO4.lt _ e).1; omega); have d4 := hx1.cell 4; have f4 := hx1.frozen 4))
            obtain ⟨h1, h2, h3, h4, h5, h6⟩ := pair_step 4 hz hx hO4 hO3 hne hB hown' hgrow hfr
            refine ⟨⟨k + 1, v3, _, by omega, by go_num, h1, by simpa using h2, by rw [holesUpto_succ, HI.out]; exact h3, by rw [cellsUpto_succ, HI.out]; exact h4, h5, h6⟩, by simp [intOf]; omega⟩
          · have HI := Lib.hid hi
            go_wp2_with (first | (go_at_call 72; refine (in13_any _ _ _ _ _ _ (h0.below hB)).mono ?_; rintro e w' ⟨rfl, q, rfl⟩) | ((at_builtin; refine wpList_append_own2 _ rfl _ _ 22 rfl (W.heap.size + 2) 3 i3 (.int .i64 0) 1 8 Try.underlying22 hi3 hz30 hz31 hz32 rfl (by decide) _ _ _ ((ownsRow_drewN hr3 _).alloc _) rfl ⟨_, 0, none⟩ 1 1 [.int .i64 (k : Int)] rfl rfl (cell_one_new _ _ _) (by simp [Value.oneCell']) (by unfold maxLen; omega) (by omega) (by first | omega | (simp; omega)) ?_; intro v' w1 hown' hgrow hfr); obtain ⟨a', c', rfl, _, _⟩ := own_slice hown'; have hx1 := ((hx.drewN q).alloc _).grown hgrow (fun e => by have := (hO3.lt _ e).1; omega); have d3 := hx1.cell 3; have f3 := hx1.frozen 3))
            obtain ⟨h1, h2, h3, h4, h5, h6⟩ := pair_step 3 hz hx hO3 hO4 hne.symm hB hown' hgrow hfr
            refine ⟨⟨k + 1, _, v4, by omega, by go_num, h1, by simpa using h2, by rw [holesUpto_succ, HI.out]; exact h4, by rw [cellsUpto_succ, HI.out]; exact h3, h5.symm, h6⟩, by simp [intOf]; omega⟩
        · obtain rfl : A = k := by omega
          have HL := Lib.hid (holesUpto_eq HH.out)
          have HN := Lib.hid (cells_nil_iff HH.out)
          have c0' : wr.cell? ⟨W.heap.size + 1, 0, none⟩ = some (.int .i64 1) := by simpa using hx.cell 0
          have c1' : wr.cell? ⟨W.heap.size + 1, 1, none⟩ = some (.int .i64 w) := by simpa using hx.cell 1
          have c2' : wr.cell? ⟨W.heap.size + 1, 2, none⟩ = some (.int .i64 h) := by simpa using hx.cell 2
          obtain ⟨a3, c3', rfl, hI3⟩ := hO3.ints
          obtain ⟨a4, c4', rfl, hI4⟩ := hO4.ints
          have z0 : wr.cell? ⟨W.heap.size, 0, none⟩ = some (.int .i64 0) := by simpa using hz.cell 0
          have z1 : wr.cell? ⟨W.heap.size, 1, none⟩ = some (.int .i64 0) := by simpa using hz.cell 1
          have z2 : wr.cell? ⟨W.heap.size, 2, none⟩ = some (.int .i64 0) := by simpa using hz.cell 2
          have z3 : wr.cell? ⟨W.heap.size, 3, none⟩ = some (.slice none 0 0) := by simpa using hz.cell 3
          have z4 : wr.cell? ⟨W.heap.size, 4, none⟩ = some (.slice none 0 0) := by simpa using hz.cell 4
          have y0 := hz.frozen 0
          have y1 := hz.frozen 1
          have y2 := hz.frozen 2
          have y3 := hz.frozen 3
          have y4 := hz.frozen 4
          by_cases hc : (cellsUpto A holes).length = 0
          · have tz : (((cellsUpto A holes).length : Int) == 0) = true := by rw [beq_iff_eq]; omega
            have HC := Lib.hid hc
            clear hc
            have HM := Lib.hid (makeL_len (s := 1) (w := w) (h := h) (holes := holes) (by rw [hA1]; intro hlt; exact (cells_nil_iff HH.out).1 (List.eq_nil_of_length_eq_zero HC.out) (by omega)))
            go_wp2_with fail
            refine bodyPost_ret (v := .tuple #[.agg #[.int .i64 0, .int .i64 0, .int .i64 0, .slice none 0 0, .slice none 0 0], .int .i64 130]) (by simp [results, Try.results39, go_sem, z0, z1, z2, z3, z4]) rfl ?_
            exact retGrid_none HM.out (by repeat (first | (with_reducible exact Below.refl _ _) | (with_reducible assumption) | (with_reducible refine below_drewN ?_ _) | ((with_reducible refine Below.setCell ?_ ?_ _); rotate_left; focus (first | (simp; done) | (simp; omega) | omega)) | ((with_reducible refine Below.alloc ?_ ?_ _); rotate_left; focus (first | (simp; done) | (simp; omega) | omega)) | (with_reducible refine Below.drew ?_)))
          · have tz : (((cellsUpto A holes).length : Int) == 0) = false := by rw [beq_eq_false_iff_ne]; omega
            have HC := Lib.hid hc
            clear hc
            go_wp2_with fail
            refine bodyPost_ret (v := .tuple #[.agg #[.int .i64 1, .int .i64 w, .int .i64 h, .slice a3 (holesUpto A holes).length c3', .slice a4 (cellsUpto A holes).length c4'], .int .i64 0]) (by simp [results, Try.results39, go_sem, z0, z1, z2, z3, z4]) rfl ?_
            exact retGrid_some (by unfold okDims; omega) HH.out hA1 HC.out HL.out rfl (hI3.set5 (fun e => by have := (hO3.lt _ e).1; omega) _ _ _ _ _) (hI4.set5 (fun e => by have := (hO4.lt _ e).1; omega) _ _ _ _ _) (fun k e => by have := (hO3.lt k e).1; omega) (fun k e => by have := (hO4.lt k e).1; omega) (by repeat (first | (with_reducible exact Below.refl _ _) | (with_reducible assumption) | (with_reducible refine below_drewN ?_ _) | ((with_reducible refine Below.setCell ?_ ?_ _); rotate_left; focus (first | (simp; done) | (simp; omega) | omega)) | ((with_reducible refine Below.alloc ?_ ?_ _); rotate_left; focus (first | (simp; done) | (simp; omega) | omega)) | (with_reducible refine Below.drew ?_)))
set_option maxRecDepth 20000 in
set_option maxHeartbeats 4000000 in
theorem refMake_two (w h : Nat) (a0 : Option Addr) (n0 c0 : Nat) (holes : List Int) (W : World) (h0 : Ints W a0 n0 c0 holes) (hw : 1 ≤ w ∧ w ≤ 16) (hh : 1 ≤ h ∧ h ≤ 16) :
    Calls Try.prog 39 #[.int .i64 2, .int .i64 w, .int .i64 h, .slice a0 n0 c0] W (RetGridE W (makeL 2 w h holes)) := by
  have hm0 := h0.mx
  have hc0 := h0.cap
  have hl0 := Lib.hid h0.len
  obtain ⟨i3, hi3, hz30, hz31, hz32⟩ := info_parts info_int
  unfold maxLen at hm0
  obtain ⟨A, hA⟩ : ∃ A : Nat, w * h = A := ⟨_, rfl⟩
  have hA1 : (w : Int) * (h : Int) = (A : Int) := by rw [← hA]; simp
  have hA256 : A ≤ 256 := by rw [← hA]; exact Nat.mul_le_mul hw.2 hh.2
  have HA := Lib.hid hA
  clear hA
  go_enter Try.func39, Try.ntmps39
  go_wp2_with fail
  go_loopw [10] (fun i wr => ∃ k : Nat, k ≤ n0 ∧ i = .int .i64 k ∧ Hid (holesOk holes A k) ∧ ∃ q, wr = (W.alloc (.cells #[.int .i64 0, .int .i64 0, .int .i64 0, .slice none 0 0, .slice none 0 0] 24)).drewN q) (fun i _ => n0 - (intOf i).toNat)
  case atStart => exact ⟨0, by omega, rfl, Lib.hid (by simp [holesOk]), 0, rfl⟩
  case round =>
    obtain ⟨k, hk, rfl, HL, q, rfl⟩ := hrel
    by_cases hlt : k < n0
    · obtain ⟨b0, o0, rfl, hb0⟩ := h0.at' (by omega)
      have e0 := h0.cell _ _ rfl k hlt
      by_cases h1 : holes[k]?.getD 0 < 0
      · have HM := Lib.hid (makeL_holes (s := 2) (w := w) (h := h) (fun hh => by have := okHoles_at hh (k := k) (by rw [hl0.out]; omega); omega))
        go_wp2_with (go_quiet (fail))
        refine bodyPost_ret (v := .tuple #[.agg #[.int .i64 0, .int .i64 0, .int .i64 0, .slice none 0 0, .slice none 0 0], .int .i64 130]) (by simp [results, Try.results39, go_sem]) rfl ?_
        exact retGrid_none HM.out (by repeat (first | (with_reducible exact Below.refl _ _) | (with_reducible assumption) | (with_reducible refine below_drewN ?_ _) | ((with_reducible refine Below.setCell ?_ ?_ _); rotate_left; focus (first | (simp; done) | (simp; omega) | omega)) | ((with_reducible refine Below.alloc ?_ ?_ _); rotate_left; focus (first | (simp; done) | (simp; omega) | omega)) | (with_reducible refine Below.drew ?_)))
      by_cases h2 : (A : Int) ≤ holes[k]?.getD 0
      · have HM := Lib.hid (makeL_holes (s := 2) (w := w) (h := h) (fun hh => by rw [hA1] at hh; have := okHoles_at hh (k := k) (by rw [hl0.out]; omega); omega))
        go_wp2_with (go_quiet (fail))
        refine bodyPost_ret (v := .tuple #[.agg #[.int .i64 0, .int .i64 0, .int .i64 0, .slice none 0 0, .slice none 0 0], .int .i64 130]) (by simp [results, Try.results39, go_sem]) rfl ?_
        exact retGrid_none HM.out (by repeat (first | (with_reducible exact Below.refl _ _) | (with_reducible assumption) | (with_reducible refine below_drewN ?_ _) | ((with_reducible refine Below.setCell ?_ ?_ _); rotate_left; focus (first | (simp; done) | (simp; omega) | omega)) | ((with_reducible refine Below.alloc ?_ ?_ _); rotate_left; focus (first | (simp; done) | (simp; omega) | omega)) | (with_reducible refine Below.drew ?_)))
      have HK := Lib.hid (holesOk_step (l := holes) (A := A) (k := k) (by rw [hl0.out]; omega))
      by_cases h3 : 0 < k
      · have e1 := h0.cell _ _ rfl (k - 1) (by omega)
        by_cases h4 : holes[k]?.getD 0 ≤ holes[k - 1]?.getD 0
        · have HM := Lib.hid (makeL_holes (s := 2) (w := w) (h := h) (fun hh => by have := okHoles_at hh (k := k) (by rw [hl0.out]; omega); omega))
          go_wp2_with (go_quiet (fail))
          refine bodyPost_ret (v := .tuple #[.agg #[.int .i64 0, .int .i64 0, .int .i64 0, .slice none 0 0, .slice none 0 0], .int .i64 130]) (by simp [results, Try.results39, go_sem]) rfl ?_
          exact retGrid_none HM.out (by repeat (first | (with_reducible exact Below.refl _ _) | (with_reducible assumption) | (with_reducible refine below_drewN ?_ _) | ((with_reducible refine Below.setCell ?_ ?_ _); rotate_left; focus (first | (simp; done) | (simp; omega) | omega)) | ((with_reducible refine Below.alloc ?_ ?_ _); rotate_left; focus (first | (simp; done) | (simp; omega) | omega)) | (with_reducible refine Below.drew ?_)))
        · go_wp2_with (go_quiet (fail))
          go_roundw
          case rel => exact ⟨k + 1, by omega, by go_num, Lib.hid (HK.out HL.out ⟨by omega, by omega⟩ (.inr (by omega))), (by first | exact ⟨_, rfl⟩ | exact ⟨_, World.drewN_drewN⟩ | exact ⟨0, rfl⟩ | exact ⟨_, by simp only [World.drewN_drewN]; rfl⟩)⟩
          case measure => simp [intOf]; omega
      · obtain rfl : k = 0 := by omega
        simp only [Nat.add_zero] at e0
        go_wp2_with (go_quiet (fail))
        go_roundw
        case rel => exact ⟨1, by omega, by go_num, Lib.hid (HK.out HL.out ⟨by omega, by omega⟩ (.inl rfl)), (by first | exact ⟨_, rfl⟩ | exact ⟨_, World.drewN_drewN⟩ | exact ⟨0, rfl⟩ | exact ⟨_, by simp only [World.drewN_drewN]; rfl⟩)⟩
        case measure => simp [intOf]; omega
    · obtain rfl : n0 = k := by omega
      have HH := Lib.hid (holesOk_end (l := holes) (A := A) (by rw [hl0.out]; exact HL.out))
      clear HL
      go_wp2_with fail
      go_loopw [12] (fun i wr => ∃ (k : Nat) (v3 v4 : Value), k ≤ A ∧ i = .int .i64 k ∧ Box wr W.heap.size #[.int .i64 0, .int .i64 0, .int .i64 0, .slice none 0 0, .slice none 0 0] 24 ∧ Box wr (W.heap.size + 1) #[.int .i64 2, .int .i64 w, .int .i64 h, v3, v4] 24 ∧ OwnInts wr (W.heap.size + 2) 3 v3 (holesUpto k holes) ∧ OwnInts wr (W.heap.size + 2) 3 v4 (cellsUpto k holes) ∧ apartV v3 v4 ∧ Below W.heap.size W wr) (fun i _ => A - (intOf i).toNat)
      case atStart => exact ⟨0, _, _, by omega, rfl, (Box.new _ _ _).alloc _, by simpa using Box.new ((W.alloc (.cells #[.int .i64 0, .int .i64 0, .int .i64 0, .slice none 0 0, .slice none 0 0] 24)).drewN q) _ _, OwnInts.nil _ _ _, OwnInts.nil _ _ _, apartV.nil _, (by repeat (first | (with_reducible exact Below.refl _ _) | (with_reducible assumption) | (with_reducible refine below_drewN ?_ _) | ((with_reducible refine Below.setCell ?_ ?_ _); rotate_left; focus (first | (simp; done) | (simp; omega) | omega)) | ((with_reducible refine Below.alloc ?_ ?_ _); rotate_left; focus (first | (simp; done) | (simp; omega) | omega)) | (with_reducible refine Below.drew ?_)))⟩
      case round =>
        obtain ⟨k, v3, v4, hk, rfl, hz, hx, hO3, hO4, hne, hB⟩ := hrel
        have hsz := hx.lt
        have c3 : wr.cell? ⟨W.heap.size + 1, 3, none⟩ = some v3 := by simpa using hx.cell 3
        have c4 : wr.cell? ⟨W.heap.size + 1, 4, none⟩ = some v4 := by simpa using hx.cell 4
        have LH := holesUpto_le k holes
        have LC := cellsUpto_le k holes
        by_cases hlt : k < A
        · have hr3 : wr.ownsRow (W.heap.size + 2) 3 1 v3 (holesUpto k holes).length ((holesUpto k holes).map (Value.int .i64)) := hO3
          have hr4 : wr.ownsRow (W.heap.size + 2) 3 1 v4 (cellsUpto k holes).length ((cellsUpto k holes).map (Value.int .i64)) := hO4
          cases hi : inL holes k
          · have HI := Lib.hid hi
            go_wp2_with (first | (go_at_call 72; refine (in13_any _ _ _ _ _ _ (h0.below hB)).mono ?_; rintro e w' ⟨rfl, q, rfl⟩) | ((at_builtin; refine wpList_append_own2 _ rfl _ _ 22 rfl (W.heap.size + 2) 3 i3 (.int .i64 0) 1 8 Try.underlying22 hi3 hz30 hz31 hz32 rfl (by decide) _ _ _ ((ownsRow_drewN hr4 _).alloc _) rfl ⟨_, 0, none⟩ 1 1 [.int .i64 (k : Int)] rfl rfl (cell_one_new _ _ _) (by simp [Value.oneCell']) (by unfold maxLen; omega) (by omega) (by first | omega | (simp; omega)) ?_; intro v' w1 hown' hgrow hfr); obtain ⟨a', c', rfl, _, _⟩ := own_slice hown'; have hx1 := ((hx.drewN q).alloc _).grown hgrow (fun e => by have := (hO4.lt _ e).1; omega); have d4 := hx1.cell 4; have f4 := hx1.frozen 4))
            obtain ⟨h1, h2, h3, h4, h5, h6⟩ := pair_step 4 hz hx hO4 hO3 hne hB hown' hgrow hfr
            refine ⟨⟨k + 1, v3, _, by omega, by go_num, h1, by simpa using h2, by rw [holesUpto_succ, HI.out]; exact h3, by rw [cellsUpto_succ, HI.out]; exact h4, h5, h6⟩, by simp [intOf]; omega⟩
          · have HI := Lib.hid hi
            go_wp2_with (first | (go_at_call 72; refine (in13_any _ _ _ _ _ _ (h0.below hB)).mono ?_; rintro e w' ⟨rfl, q, rfl⟩) | ((at_builtin; refine wpList_append_own2 _ rfl _ _ 22 rfl (W.heap.size + 2) 3 i3 (.int .i64 0) 1 8 Try.underlying22 hi3 hz30 hz31 hz32 rfl (by decide) _ _ _ ((ownsRow_drewN hr3 _).alloc _) rfl ⟨_, 0, none⟩ 1 1 [.int .i64 (k : Int)] rfl rfl (cell_one_new _ _ _) (by simp [Value.oneCell']) (by unfold maxLen; omega) (by omega) (by first | omega | (simp; omega)) ?_; intro v' w1 hown' hgrow hfr); obtain ⟨a', c', rfl, _, _⟩ := own_slice hown'; have hx1 := ((hx.drewN q).alloc _).grown hgrow (fun e => by have := (hO3.lt _ e).1; omega); have d3 := hx1.cell 3; have f3 := hx1.frozen 3))
            obtain ⟨h1, h2, h3, h4, h5, h6⟩ := pair_step 3 hz hx hO3 hO4 hne.symm hB hown' hgrow hfr
            refine ⟨⟨k + 1, _, v4, by omega, by go_num, h1, by simpa using h2, by rw [holesUpto_succ, HI.out]; exact h4, by rw [cellsUpto_succ, HI.out]; exact h3, h5.symm, h6⟩, by simp [intOf]; omega⟩
        · obtain rfl : A = k := by omega
          have HL := Lib.hid (holesUpto_eq HH.out)
          have HN := Lib.hid (cells_nil_iff HH.out)
          have c0' : wr.cell? ⟨W.heap.size + 1, 0, none⟩ = some (.int .i64 2) := by simpa using hx.cell 0
          have c1' : wr.cell? ⟨W.heap.size + 1, 1, none⟩ = some (.int .i64 w) := by simpa using hx.cell 1
          have c2' : wr.cell? ⟨W.heap.size + 1, 2, none⟩ = some (.int .i64 h) := by simpa using hx.cell 2
          obtain ⟨a3, c3', rfl, hI3⟩ := hO3.ints
          obtain ⟨a4, c4', rfl, hI4⟩ := hO4.ints
          have z0 : wr.cell? ⟨W.heap.size, 0, none⟩ = some (.int .i64 0) := by simpa using hz.cell 0
          have z1 : wr.cell? ⟨W.heap.size, 1, none⟩ = some (.int .i64 0) := by simpa using hz.cell 1
          have z2 : wr.cell? ⟨W.heap.size, 2, none⟩ = some (.int .i64 0) := by simpa using hz.cell 2
          have z3 : wr.cell? ⟨W.heap.size, 3, none⟩ = some (.slice none 0 0) := by simpa using hz.cell 3
          have z4 : wr.cell? ⟨W.heap.size, 4, none⟩ = some (.slice none 0 0) := by simpa using hz.cell 4
          have y0 := hz.frozen 0
          have y1 := hz.frozen 1
          have y2 := hz.frozen 2
          have y3 := hz.frozen 3
          have y4 := hz.frozen 4
          by_cases hc : (cellsUpto A holes).length = 0
          · have tz : (((cellsUpto A holes).length : Int) == 0) = true := by rw [beq_iff_eq]; omega
            have HC := Lib.hid hc
            clear hc
            have HM := Lib.hid (makeL_len (s := 2) (w := w) (h := h) (holes := holes) (by rw [hA1]; intro hlt; exact (cells_nil_iff HH.out).1 (List.eq_nil_of_length_eq_zero HC.out) (by omega)))
            go_wp2_with fail
            refine bodyPost_ret (v := .tuple #[.agg #[.int .i64 0, .int .i64 0, .int .i64 0, .slice none 0 0, .slice none 0 0], .int .i64 130]) (by simp [results, Try.results39, go_sem, z0, z1, z2, z3, z4]) rfl ?_
            exact retGrid_none HM.out (by repeat (first | (with_reducible exact Below.refl _ _) | (with_reducible assumption) | (with_reducible refine below_drewN ?_ _) | ((with_reducible refine Below.setCell ?_ ?_ _); rotate_left; focus (first | (simp; done) | (simp; omega) | omega)) | ((with_reducible refine Below.alloc ?_ ?_ _); rotate_left; focus (first | (simp; done) | (simp; omega) | omega)) | (with_reducible refine Below.drew ?_)))
          · have tz : (((cellsUpto A holes).length : Int) == 0) = false := by rw [beq_eq_false_iff_ne]; omega
            have HC := Lib.hid hc
            clear hc
            go_wp2_with fail
            refine bodyPost_ret (v := .tuple #[.agg #[.int .i64 2, .int .i64 w, .int .i64 h, .slice a3 (holesUpto A holes).length c3', .slice a4 (cellsUpto A holes).length c4'], .int .i64 0]) (by simp [results, Try.results39, go_sem, z0, z1, z2, z3, z4]) rfl ?_
            exact retGrid_some (by unfold okDims; omega) HH.out hA1 HC.out HL.out rfl (hI3.set5 (fun e => by have := (hO3.lt _ e).1; omega) _ _ _ _ _) (hI4.set5 (fun e => by have := (hO4.lt _ e).1; omega) _ _ _ _ _) (fun k e => by have := (hO3.lt k e).1; omega) (fun k e => by have := (hO4.lt k e).1; omega) (by repeat (first | (with_reducible exact Below.refl _ _) | (with_reducible assumption) | (with_reducible refine below_drewN ?_ _) | ((with_reducible refine Below.setCell ?_ ?_ _); rotate_left; focus (first | (simp; done) | (simp; omega) | omega)) | ((with_reducible refine Below.alloc ?_ ?_ _); rotate_left; focus (first | (simp; done) | (simp; omega) | omega)) | (with_reducible refine Below.drew ?_)))

theorem refMake_any (s w h : Int) (a0 : Option Addr) (n0 c0 : Nat) (holes : List Int) (W : World) (h0 : Ints W a0 n0 c0 holes) :
    Calls Try.prog 39 #[.int .i64 s, .int .i64 w, .int .i64 h, .slice a0 n0 c0] W (RetGridE W (makeL s w h holes)) := by
  by_cases hd : okDims s w h
  · obtain ⟨hs, h1, h2, h3, h4⟩ := hd
    obtain ⟨w, rfl⟩ : ∃ k : Nat, w = k := ⟨w.toNat, by omega⟩
    obtain ⟨h, rfl⟩ : ∃ k : Nat, h = k := ⟨h.toNat, by omega⟩
    rcases hs with rfl | rfl
    · exact refMake_one w h a0 n0 c0 holes W h0 (by omega) (by omega)
    · exact refMake_two w h a0 n0 c0 holes W h0 (by omega) (by omega)
  · exact refMake_dims s w h a0 n0 c0 holes W hd
end Go.Proofs.Ytjiacdihfbbfjaa

