/- Contract of ref.At. -/
import Derived.Test.YtfhekhjojdhmhaaFAt
import Derived.Deep.RegionHeld3
import Derived.WalkKit
import Derived.WalkSpells
import Derived.WalkLawsBesides
import Derived.Deep.LoopGhost
import Derived.Deep.QuietTactic
import Derived.BigQuiet
import Derived.StillTailTactics
import Derived.Lib.Hide
import Derived.Outline
import Derived.Lib.QuietBelow
namespace Go.Proofs.Ytfhekhjojdhmhaa
open Go.RowKit

def cB (k : Key) (day known : Int) (f : Fact) : Bool := ofB k known f && onB day f
theorem atF_cB (l : List Fact) (k : Key) (day known : Int) : atF l k day known = (bestF (l.filter (cB k day known))).bind fun f => if f.val < 0 then none else some f.val := by
  unfold atF ofL
  rw [List.filter_filter]
  congr 2
  congr 1
  funext f
  unfold cB
  rw [Bool.and_comm]
/-- The best one of the first j, by its index. -/
structure BestI (l : List Fact) (k : Key) (day known : Int) (j : Nat) (b : Int) : Prop where
  is : (b = -1 ∧ bestF ((l.take j).filter (cB k day known)) = none) ∨ ∃ (m : Nat) (y : Fact), b = m ∧ m < j ∧ l[m]? = some y ∧ bestF ((l.take j).filter (cB k day known)) = some y
theorem take_filter {l : List Fact} {p : Fact → Bool} {j : Nat} {x : Fact} (hx : l[j]? = some x) : (l.take (j + 1)).filter p = (l.take j).filter p ++ (if p x then [x] else []) := by
  rw [List.take_add_one, hx, List.filter_append]
  by_cases h : p x = true <;> simp [h]
theorem BestI.off {l : List Fact} {k : Key} {day known b : Int} {j : Nat} {x : Fact} (h : BestI l k day known j b) (hx : l[j]? = some x) (hc : cB k day known x = false) : BestI l k day known (j + 1) b := by
  have e : (l.take (j + 1)).filter (cB k day known) = (l.take j).filter (cB k day known) := by rw [take_filter hx, hc]; simp
  rcases h.is with ⟨h1, h2⟩ | ⟨m, y, h1, h2, h3, h4⟩
  · exact ⟨.inl ⟨h1, by rw [e]; exact h2⟩⟩
  · exact ⟨.inr ⟨m, y, h1, by omega, h3, by rw [e]; exact h4⟩⟩
theorem BestI.first {l : List Fact} {k : Key} {day known : Int} {j : Nat} {x : Fact} (h : bestF ((l.take j).filter (cB k day known)) = none) (hx : l[j]? = some x) (hc : cB k day known x = true) : BestI l k day known (j + 1) j :=
  ⟨.inr ⟨j, x, rfl, by omega, hx, by rw [take_filter hx, if_pos hc, bestF_snoc, h]; rfl⟩⟩
theorem BestI.new {l : List Fact} {k : Key} {day known : Int} {j : Nat} {x y : Fact} (h : bestF ((l.take j).filter (cB k day known)) = some y) (hx : l[j]? = some x) (hc : cB k day known x = true) (hb : befB x y = false) : BestI l k day known (j + 1) j :=
  ⟨.inr ⟨j, x, rfl, by omega, hx, by rw [take_filter hx, if_pos hc, bestF_snoc, h]; show (if befB x y = true then some y else some x) = _; rw [hb]; rfl⟩⟩
theorem BestI.old {l : List Fact} {k : Key} {day known : Int} {j m : Nat} {x y : Fact} (hm : m < j) (hy : l[m]? = some y) (h : bestF ((l.take j).filter (cB k day known)) = some y) (hx : l[j]? = some x) (hc : cB k day known x = true) (hb : befB x y = true) : BestI l k day known (j + 1) m :=
  ⟨.inr ⟨m, y, rfl, by omega, hy, by rw [take_filter hx, if_pos hc, bestF_snoc, h]; show (if befB x y = true then some y else some x) = _; rw [hb]; rfl⟩⟩
def K3 (w : World) (b : Nat) (k : Key) : Prop := w.cell? ⟨b, 0, none⟩ = some (.int .i64 k.kd) ∧ w.cell? ⟨b, 1, none⟩ = some (.int .i64 k.sb) ∧ w.cell? ⟨b, 2, none⟩ = some (.int .i64 k.ob)
theorem K3.below {w w' : World} {b : Nat} {k : Key} (h : K3 w b k) (hb : Below w.heap.size w w') : K3 w' b k := by
  obtain ⟨h0, h1, h2⟩ := h
  have l := World.block_lt_of_cell? w _ h0
  exact ⟨(hb.cell (p := ⟨b, 0, none⟩) l).trans h0, (hb.cell (p := ⟨b, 1, none⟩) l).trans h1, (hb.cell (p := ⟨b, 2, none⟩) l).trans h2⟩
theorem keep3F {w0 w w' : World} {b1 o1 b2 o2 b3 : Nat} {f g : Fact} {k : Key} (h : At8 w b1 o1 f ∧ At8 w b2 o2 g ∧ K3 w b3 k ∧ Below w0.heap.size w0 w) (hb : Below w.heap.size w w') : At8 w' b1 o1 f ∧ At8 w' b2 o2 g ∧ K3 w' b3 k ∧ Below w0.heap.size w0 w' :=
  ⟨h.1.below hb, h.2.1.below hb, h.2.2.1.below hb, h.2.2.2.on hb⟩

set_option maxRecDepth 20000 in
set_option maxHeartbeats 4000000 in
theorem rat_any (a0 : Option Addr) (n0 c0 : Nat) (l : List Fact) (k : Key) (day known : Int) (w : World) (h0 : SL encF 8 w a0 n0 c0 l) :
    Calls Try.prog 19 #[.slice a0 n0 c0, keyV k, .int .i64 day, .int .i64 known] w fun e w' => e = .returned (.tuple #[.int .i64 (atV l k day known), .bool (atOk l k day known)]) ∧ Below w.heap.size w w' := by
  have hm0 := h0.mx
  have hc0 := h0.cap
  have hl0 := Lib.hid h0.len
  unfold maxLen at hm0
  have hg := guard_key
  have hal : Below w.heap.size w (w.alloc (.cells #[.int .i64 k.kd, .int .i64 k.sb, .int .i64 k.ob] 24)) := (Below.refl _ _).alloc (Nat.le_refl _) _
  have hK0 : K3 (w.alloc (.cells #[.int .i64 k.kd, .int .i64 k.sb, .int .i64 k.ob] 24)) w.heap.size k := Box3 (Box.new _ _ _)
  go_enter Try.func19, Try.ntmps19
  go_wp2_with fail
  go_loopw [10, 11] (fun b i wr => ∃ (j : Nat) (bi : Int), j ≤ n0 ∧ i = .int .i64 j ∧ b = .int .i64 bi ∧ Hid (BestI l k day known j bi) ∧ Below w.heap.size w wr ∧ K3 wr w.heap.size k) (fun _ i _ => n0 - (intOf i).toNat)
  case atStart => exact ⟨0, -1, by omega, rfl, rfl, Lib.hid ⟨.inl ⟨rfl, rfl⟩⟩, hal, hK0⟩
  case round =>
    clear hal hK0
    obtain ⟨j, bi, hj, rfl, rfl, HBI, hB, hK3⟩ := hrel
    by_cases hlt : j < n0
    · obtain ⟨b0, o0, rfl, hb0⟩ := h0.at' (by omega)
      obtain ⟨x, hx⟩ := h0.get hlt
      obtain ⟨e0, e1, e2, e3, e4, e5, e6, e7⟩ := (h0.below hB).fact hx
      have HX := Lib.hid hx
      clear hx
      obtain ⟨wv, hwv, hbk, hbox⟩ : ∃ wx, wr.alloc (.cells #[.int .i64 x.kd, .int .i64 x.sb, .int .i64 x.ob, .int .i64 x.val, .int .i64 x.vf, .int .i64 x.vt, .int .i64 x.kn, .int .i64 x.no] 28) = wx ∧ Below wr.heap.size wr wx ∧ Box wx wr.heap.size #[.int .i64 x.kd, .int .i64 x.sb, .int .i64 x.ob, .int .i64 x.val, .int .i64 x.vf, .int .i64 x.vt, .int .i64 x.kn, .int .i64 x.no] 28 := ⟨_, rfl, (Below.refl _ _).alloc (Nat.le_refl _) _, Box.new _ _ _⟩
      have hA1 : At8 wv wr.heap.size 0 x := ⟨hbox.cell 0, hbox.cell 1, hbox.cell 2, hbox.cell 3, hbox.cell 4, hbox.cell 5, hbox.cell 6, hbox.cell 7⟩
      have hA3 := hK3.below hbk
      have hB2 : Below w.heap.size w wv := hB.on hbk
      obtain ⟨d0, d1, d2, d3, d4, d5, d6, d7⟩ := hA1
      have hA1 : At8 wv wr.heap.size 0 x := ⟨d0, d1, d2, d3, d4, d5, d6, d7⟩
      obtain ⟨g0, g1, g2⟩ := hA3
      have hA3 : K3 wv w.heap.size k := ⟨g0, g1, g2⟩
      simp only [Nat.zero_add] at d0 d1 d2 d3 d4 d5 d6 d7
      have hE : ∀ w, (Op.equalIn 10000 24 (.agg #[.int .i64 x.kd, .int .i64 x.sb, .int .i64 x.ob]) (keyV k)).run Try.prog w = .ok (decide (x.key = k)) w := eqInD_key 9998 x.key k
      cases t1 : decide (x.key = k)
      · rw [t1] at hE
        have HOFF : Hid (cB k day known x = false) := Lib.hid (by unfold cB ofB; rw [t1]; rfl)
        clear t1
        go_wp2_with (go_quiet (fail))
        go_roundw
        case rel => exact ⟨j + 1, bi, by omega, by go_num, rfl, Lib.hid (HBI.out.off HX.out HOFF.out), hB2.on (Below.drewN0 _ _), hA3.below (Below.drewN0 _ _)⟩
        case measure => simp [intOf]; omega
      · rw [t1] at hE
        have T1 := Lib.hid t1
        clear t1
        cases t2 : decide (x.vf ≤ day)
        · have HOFF : Hid (cB k day known x = false) := Lib.hid (by unfold cB onB; rw [t2]; simp)
          go_wp2_with (go_quiet (fail))
          go_roundw
          case rel => exact ⟨j + 1, bi, by omega, by go_num, rfl, Lib.hid (HBI.out.off HX.out HOFF.out), hB2.on (Below.drewN0 _ _), hA3.below (Below.drewN0 _ _)⟩
          case measure => simp [intOf]; omega
        · cases t3 : decide (day < x.vt)
          · have HOFF : Hid (cB k day known x = false) := Lib.hid (by unfold cB onB; rw [t3]; simp)
            go_wp2_with (go_quiet (fail))
            go_roundw
            case rel => exact ⟨j + 1, bi, by omega, by go_num, rfl, Lib.hid (HBI.out.off HX.out HOFF.out), hB2.on (Below.drewN0 _ _), hA3.below (Below.drewN0 _ _)⟩
            case measure => simp [intOf]; omega
          · cases t4 : decide (x.kn ≤ known)
            · have HOFF : Hid (cB k day known x = false) := Lib.hid (by unfold cB ofB; rw [t4]; simp)
              go_wp2_with (go_quiet (fail))
              go_roundw
              case rel => exact ⟨j + 1, bi, by omega, by go_num, rfl, Lib.hid (HBI.out.off HX.out HOFF.out), hB2.on (Below.drewN0 _ _), hA3.below (Below.drewN0 _ _)⟩
              case measure => simp [intOf]; omega
            · have HON : Hid (cB k day known x = true) := Lib.hid (by unfold cB ofB onB; rw [T1.out, t2, t3, t4]; rfl)
              rcases HBI.out.is with ⟨rfl, hbn⟩ | ⟨m, y, rfl, hmj, hy, hby⟩
              · have HBN := Lib.hid hbn
                clear hbn
                go_wp2_with (go_quiet (fail))
                go_roundw
                case rel => exact ⟨j + 1, j, by omega, by go_num, rfl, Lib.hid (BestI.first HBN.out HX.out HON.out), hB2.on (Below.drewN0 _ _), hA3.below (Below.drewN0 _ _)⟩
                case measure => simp [intOf]; omega
              · have hA2 : At8 wv b0 (o0 + m * 8) y := ((h0.below hB2).fact hy)
                have HY := Lib.hid hy
                have HBY := Lib.hid hby
                have u1 : (0 : Int) ≤ (m : Int) := by omega
                have u2 : (m : Int) < (n0 : Int) := by omega
                have u3 : decide ((m : Int) < 0) = false := by rw [decide_eq_false_iff_not]; omega
                have HBE := before_any x y
                clear hy hby HBI d0 d1 d2 d3 d4 d5 d6 d7 g0 g1 g2
                cases hbe : befB x y
                · rw [hbe] at HBE
                  have HBE := Lib.hid HBE
                  have HBB := Lib.hid hbe
                  clear hbe
                  go_wp2_with fail
                  go_region_held3 (fun w' => (w'.cell? ⟨wr.heap.size, 0, none⟩ = some (.int .i64 x.kd) ∧ w'.cell? ⟨wr.heap.size, 1, none⟩ = some (.int .i64 x.sb) ∧ w'.cell? ⟨wr.heap.size, 2, none⟩ = some (.int .i64 x.ob) ∧ w'.cell? ⟨wr.heap.size, 3, none⟩ = some (.int .i64 x.val) ∧ w'.cell? ⟨wr.heap.size, 4, none⟩ = some (.int .i64 x.vf) ∧ w'.cell? ⟨wr.heap.size, 5, none⟩ = some (.int .i64 x.vt) ∧ w'.cell? ⟨wr.heap.size, 6, none⟩ = some (.int .i64 x.kn) ∧ w'.cell? ⟨wr.heap.size, 7, none⟩ = some (.int .i64 x.no)) ∧ (w'.cell? ⟨b0, o0 + m * 8, none⟩ = some (.int .i64 y.kd) ∧ w'.cell? ⟨b0, o0 + m * 8 + 1, none⟩ = some (.int .i64 y.sb) ∧ w'.cell? ⟨b0, o0 + m * 8 + 2, none⟩ = some (.int .i64 y.ob) ∧ w'.cell? ⟨b0, o0 + m * 8 + 3, none⟩ = some (.int .i64 y.val) ∧ w'.cell? ⟨b0, o0 + m * 8 + 4, none⟩ = some (.int .i64 y.vf) ∧ w'.cell? ⟨b0, o0 + m * 8 + 5, none⟩ = some (.int .i64 y.vt) ∧ w'.cell? ⟨b0, o0 + m * 8 + 6, none⟩ = some (.int .i64 y.kn) ∧ w'.cell? ⟨b0, o0 + m * 8 + 7, none⟩ = some (.int .i64 y.no)) ∧ (w'.cell? ⟨w.heap.size, 0, none⟩ = some (.int .i64 k.kd) ∧ w'.cell? ⟨w.heap.size, 1, none⟩ = some (.int .i64 k.sb) ∧ w'.cell? ⟨w.heap.size, 2, none⟩ = some (.int .i64 k.ob)) ∧ Below wv.heap.size wv w')
                    (first | exact ⟨hA1, hA2, hA3, (Below.refl _ _).drew⟩ | exact keep3F (o1 := 0) (by assumption) (by assumption))
                    (first | (go_at_call 30; refine (HBE.out _).mono ?_; rintro e w' ⟨rfl, hb⟩))
                  go_wp2_with fail
                  go_roundw
                  case rel => exact ⟨j + 1, j, by omega, by go_num, rfl, Lib.hid (BestI.new HBY.out HX.out HON.out HBB.out), hB2.on ((Below.refl _ _).drew.on hb), hA3.below ((Below.refl _ _).drew.on hb)⟩
                  case measure => simp [intOf]; omega
                · rw [hbe] at HBE
                  have HBE := Lib.hid HBE
                  have HBB := Lib.hid hbe
                  clear hbe
                  go_wp2_with fail
                  go_region_held3 (fun w' => (w'.cell? ⟨wr.heap.size, 0, none⟩ = some (.int .i64 x.kd) ∧ w'.cell? ⟨wr.heap.size, 1, none⟩ = some (.int .i64 x.sb) ∧ w'.cell? ⟨wr.heap.size, 2, none⟩ = some (.int .i64 x.ob) ∧ w'.cell? ⟨wr.heap.size, 3, none⟩ = some (.int .i64 x.val) ∧ w'.cell? ⟨wr.heap.size, 4, none⟩ = some (.int .i64 x.vf) ∧ w'.cell? ⟨wr.heap.size, 5, none⟩ = some (.int .i64 x.vt) ∧ w'.cell? ⟨wr.heap.size, 6, none⟩ = some (.int .i64 x.kn) ∧ w'.cell? ⟨wr.heap.size, 7, none⟩ = some (.int .i64 x.no)) ∧ (w'.cell? ⟨b0, o0 + m * 8, none⟩ = some (.int .i64 y.kd) ∧ w'.cell? ⟨b0, o0 + m * 8 + 1, none⟩ = some (.int .i64 y.sb) ∧ w'.cell? ⟨b0, o0 + m * 8 + 2, none⟩ = some (.int .i64 y.ob) ∧ w'.cell? ⟨b0, o0 + m * 8 + 3, none⟩ = some (.int .i64 y.val) ∧ w'.cell? ⟨b0, o0 + m * 8 + 4, none⟩ = some (.int .i64 y.vf) ∧ w'.cell? ⟨b0, o0 + m * 8 + 5, none⟩ = some (.int .i64 y.vt) ∧ w'.cell? ⟨b0, o0 + m * 8 + 6, none⟩ = some (.int .i64 y.kn) ∧ w'.cell? ⟨b0, o0 + m * 8 + 7, none⟩ = some (.int .i64 y.no)) ∧ (w'.cell? ⟨w.heap.size, 0, none⟩ = some (.int .i64 k.kd) ∧ w'.cell? ⟨w.heap.size, 1, none⟩ = some (.int .i64 k.sb) ∧ w'.cell? ⟨w.heap.size, 2, none⟩ = some (.int .i64 k.ob)) ∧ Below wv.heap.size wv w')
                    (first | exact ⟨hA1, hA2, hA3, (Below.refl _ _).drew⟩ | exact keep3F (o1 := 0) (by assumption) (by assumption))
                    (first | (go_at_call 30; refine (HBE.out _).mono ?_; rintro e w' ⟨rfl, hb⟩))
                  go_wp2_with fail
                  go_roundw
                  case rel => exact ⟨j + 1, m, by omega, by go_num, rfl, Lib.hid (BestI.old hmj HY.out HBY.out HX.out HON.out HBB.out), hB2.on ((Below.refl _ _).drew.on hb), hA3.below ((Below.refl _ _).drew.on hb)⟩
                  case measure => simp [intOf]; omega
    · obtain rfl : n0 = j := by omega
      have HAT := Lib.hid (atF_cB l k day known)
      have HT : Hid (l.take n0 = l) := Lib.hid (List.take_of_length_le (by rw [hl0.out]; omega))
      rcases HBI.out.is with ⟨rfl, hbn⟩ | ⟨m, y, rfl, hmj, hy, hby⟩
      · rw [HT.out] at hbn
        rw [hbn] at HAT
        clear hbn HBI
        go_wp2_with (go_quiet (fail))
        (refine bodyPost_ret (v := .tuple #[.int .i64 0, .bool false]) (by simp [results, Try.results19, go_sem]) rfl ?_)
        exact ⟨by unfold atV atOk; rw [HAT.out]; rfl, hB⟩
      · rw [HT.out] at hby
        rw [hby] at HAT
        obtain ⟨b0, o0, rfl, hb0⟩ := h0.at' (by omega)
        obtain ⟨e0, e1, e2, e3, e4, e5, e6, e7⟩ := (h0.below hB).fact hy
        have u1 : (0 : Int) ≤ (m : Int) := by omega
        have u2 : (m : Int) < (n0 : Int) := by omega
        have u3 : decide ((m : Int) < 0) = false := by rw [decide_eq_false_iff_not]; omega
        clear hby HBI hy
        by_cases hv : y.val < 0
        · have HV := Lib.hid hv
          go_wp2_with (go_quiet (fail))
          (refine bodyPost_ret (v := .tuple #[.int .i64 0, .bool false]) (by simp [results, Try.results19, go_sem]) rfl ?_)
          exact ⟨by unfold atV atOk; rw [HAT.out, Option.bind_some, if_pos (by have := HV.out; omega)]; rfl, hB⟩
        · have HV := Lib.hid hv
          go_wp2_with (go_quiet (fail))
          (refine bodyPost_ret (v := .tuple #[.int .i64 y.val, .bool true]) (by simp [results, Try.results19, go_sem]) rfl ?_)
          exact ⟨by unfold atV atOk; rw [HAT.out, Option.bind_some, if_neg (by have := HV.out; omega)]; rfl, hB⟩
end Go.Proofs.Ytfhekhjojdhmhaa
