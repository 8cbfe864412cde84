/- Contract of the reference function Swaps. -/
import Derived.Test.YtjiacdihfbbfjaaRefX
import Derived.Maps.AppendAt
import Derived.Deep.RegionLaw
import Derived.WalkKit
import Derived.WalkSpells
import Derived.WalkLawsBesides
import Derived.Deep.LoopGhost
import Derived.Deep.QuietTactic
import Derived.BigQuiet
import Derived.StillTailTactics
import Derived.Lib.Hide
import Derived.Outline
import Derived.Lib.QuietBelow
namespace Go.Proofs.Ytjiacdihfbbfjaa
open Go.RowKit

/-- Result of a function that returns slices of its own, and an error number. -/
def RetRowsE (w : World) (E : TypeId) (ll : List (List Int)) (err : Int) (e : Ending) (w' : World) : Prop := ∃ v, e = .returned (.tuple #[v, .int .i64 err]) ∧ OwnRows w' w.heap.size E v ll ∧ Below w.heap.size w w'

def swapPair (n : Nat) (ll : List (List Int)) (i j : Nat) : List (List Int) :=
  if 0 < (ll[i]?.getD []).length ∧ (ll[i]?.getD []).length = (ll[j]?.getD []).length ∧ apartL (ll[i]?.getD []) (ll[j]?.getD []) = true then [swapL n (ll[i]?.getD []) (ll[j]?.getD [])] else []
/-- The pairs (i, i+1), .., (i, i+c). -/
def swapRow (n : Nat) (ll : List (List Int)) (i c : Nat) : List (List Int) := (List.range c).flatMap fun d => swapPair n ll i (i + 1 + d)
def swapRows (n : Nat) (ll : List (List Int)) (k : Nat) : List (List Int) := (List.range k).flatMap fun i => swapRow n ll i (ll.length - (i + 1))
def swapsBad (n : Int) (ll : List (List Int)) : Bool := decide (n < 0 ∨ 256 < n) || !ll.all fun l => diffL l n
def swapsOut (n : Int) (ll : List (List Int)) : List (List Int) := if swapsBad n ll then [] else swapRows n.toNat ll ll.length
def swapsErr (n : Int) (ll : List (List Int)) : Int := if swapsBad n ll then 140 else 0

theorem swapPair_no {n : Nat} {ll : List (List Int)} {i j : Nat} (h : ¬ (0 < (ll[i]?.getD []).length ∧ (ll[i]?.getD []).length = (ll[j]?.getD []).length ∧ apartL (ll[i]?.getD []) (ll[j]?.getD []) = true)) : swapPair n ll i j = [] := by
  unfold swapPair; rw [if_neg h]
theorem swapPair_yes {n : Nat} {ll : List (List Int)} {i j : Nat} (h : 0 < (ll[i]?.getD []).length ∧ (ll[i]?.getD []).length = (ll[j]?.getD []).length ∧ apartL (ll[i]?.getD []) (ll[j]?.getD []) = true) : swapPair n ll i j = [swapL n (ll[i]?.getD []) (ll[j]?.getD [])] := by
  unfold swapPair; rw [if_pos h]

theorem swapRow_succ (n : Nat) (ll : List (List Int)) (i c : Nat) : swapRow n ll i (c + 1) = swapRow n ll i c ++ swapPair n ll i (i + 1 + c) := by
  unfold swapRow; rw [List.range_succ]; simp
theorem swapRows_succ (n : Nat) (ll : List (List Int)) (k : Nat) : swapRows n ll (k + 1) = swapRows n ll k ++ swapRow n ll k (ll.length - (k + 1)) := by
  unfold swapRows; rw [List.range_succ]; simp
theorem swapPair_le (n : Nat) (ll : List (List Int)) (i j : Nat) : (swapPair n ll i j).length ≤ 1 := by
  unfold swapPair; split <;> simp
theorem swapRow_le (n : Nat) (ll : List (List Int)) (i c : Nat) : (swapRow n ll i c).length ≤ c := by
  induction c with
  | zero => simp [swapRow]
  | succ c ih => rw [swapRow_succ, List.length_append]; have := swapPair_le n ll i (i + 1 + c); omega
theorem swapRows_le (n : Nat) (ll : List (List Int)) (k : Nat) : (swapRows n ll k).length ≤ k * ll.length := by
  induction k with
  | zero => simp [swapRows]
  | succ k ih =>
    rw [swapRows_succ, List.length_append, Nat.succ_mul]
    have := swapRow_le n ll k (ll.length - (k + 1)); omega
theorem allDiff_step {ll : List (List Int)} {n : Int} {k : Nat} (hk : k < ll.length) (h : (ll.take k).all (fun l => diffL l n) = true) (h2 : diffL (ll[k]?.getD []) n = true) : (ll.take (k + 1)).all (fun l => diffL l n) = true := by
  rw [takeLL_getD ll k hk, List.all_append, h]; simp [h2]
theorem swapsBad_row {ll : List (List Int)} {n : Int} {k : Nat} (hk : k < ll.length) (h2 : diffL (ll[k]?.getD []) n = false) : swapsBad n ll = true := by
  unfold swapsBad
  have : ll.all (fun l => diffL l n) = false := by
    rw [List.all_eq_false]
    refine ⟨ll[k]?.getD [], ?_, by simp [h2]⟩
    simp [List.getElem?_eq_getElem hk]
  simp [this]
theorem swapsBad_n {ll : List (List Int)} {n : Int} (h : n < 0 ∨ 256 < n) : swapsBad n ll = true := by
  unfold swapsBad; simp [h]
theorem swapsBad_ok {ll : List (List Int)} {n : Int} (h : ¬ (n < 0 ∨ 256 < n)) (h2 : (ll.take ll.length).all (fun l => diffL l n) = true) : swapsBad n ll = false := by
  rw [List.take_of_length_le (Nat.le_refl _)] at h2
  unfold swapsBad; rw [h2]; simp [h]

theorem swapRow_next {n : Nat} {ll : List (List Int)} {i t : Nat} (h : i + 1 ≤ t) : swapRow n ll i (t + 1 - (i + 1)) = swapRow n ll i (t - (i + 1)) ++ swapPair n ll i t := by
  rw [show t + 1 - (i + 1) = (t - (i + 1)) + 1 by omega, swapRow_succ, show i + 1 + (t - (i + 1)) = t by omega]
theorem retRowsE_bad {w w' : World} {E : TypeId} {ll : List (List Int)} {n : Int} (hb : swapsBad n ll = true) (h : Below w.heap.size w w') : RetRowsE w E (swapsOut n ll) (swapsErr n ll) (.returned (.tuple #[.slice none 0 0, .int .i64 140])) w' := by
  unfold swapsOut swapsErr; rw [hb]
  exact ⟨_, rfl, OwnRows.nil _ _ _, h⟩

theorem retRowsE_ok {w w' : World} {E : TypeId} {ll : List (List Int)} {n : Int} {v : Value} (hb : swapsBad n ll = false) (hO : OwnRows w' w.heap.size E v (swapRows n.toNat ll ll.length)) (h : Below w.heap.size w w') : RetRowsE w E (swapsOut n ll) (swapsErr n ll) (.returned (.tuple #[v, .int .i64 0])) w' := by
  unfold swapsOut swapsErr; rw [hb]
  exact ⟨_, rfl, hO, h⟩
theorem rows_len_le {N : Nat} {ll : List (List Int)} {m k c : Nat} (hl : ll.length = m) (hm : m ≤ 1000) (hk : k < m) (hc : c ≤ m - (k + 1)) : (swapRows N ll k ++ swapRow N ll k c).length ≤ 2000000 := by
  rw [List.length_append]
  have h1 := swapRows_le N ll k
  have h2 := swapRow_le N ll k c
  have h3 : k * ll.length ≤ 1000 * 1000 := Nat.mul_le_mul (by omega) (by omega)
  omega

set_option maxRecDepth 10000 in
set_option maxHeartbeats 2000000 in
theorem refSwaps_any (n : Int) (a0 : Option Addr) (m c0 : Nat) (ll : List (List Int)) (w : World) (h0 : Rows w a0 m c0 ll) (hm : m ≤ 1000) :
    Calls Try.prog 29 #[.int .i64 n, .slice a0 m c0] w (RetRowsE w 22 (swapsOut n ll) (swapsErr n ll)) := by
  have hm0 := h0.mx
  have hc0 := h0.cap
  have hl0 := Lib.hid h0.len
  obtain ⟨i22, hi22, hz220, hz221, hz222⟩ := info_parts info_ints
  unfold maxLen at hm0
  by_cases hneg : n < 0
  · have HB := Lib.hid (swapsBad_n (ll := ll) (.inl hneg))
    go_enter Try.func29, Try.ntmps29
    go_wp2_with fail
    go_ret2
    exact retRowsE_bad HB.out (Below.refl _ _)
  by_cases hbig : 256 < n
  · have HB := Lib.hid (swapsBad_n (ll := ll) (.inr hbig))
    go_enter Try.func29, Try.ntmps29
    go_wp2_with fail
    go_ret2
    exact retRowsE_bad HB.out (Below.refl _ _)
  obtain ⟨N, rfl⟩ : ∃ N : Nat, n = (N : Int) := ⟨n.toNat, by omega⟩
  have hN : N ≤ 256 := by omega
  clear hneg hbig
  go_enter Try.func29, Try.ntmps29
  go_wp2_with fail
  go_loopw [6] (fun i wr => ∃ k : Nat, k ≤ m ∧ i = .int .i64 k ∧ Hid ((ll.take k).all (fun l => diffL l N) = true) ∧ ∃ q, wr = w.drewN q) (fun i _ => m - (intOf i).toNat)
  case atStart => exact ⟨0, by omega, rfl, Lib.hid (by simp), 0, rfl⟩
  case round =>
    obtain ⟨k, hk, rfl, HL, q, rfl⟩ := hrel
    by_cases hlt : k < m
    · obtain ⟨b0, o0, rfl, hb0⟩ := h0.at' (by omega)
      obtain ⟨ai, ni, ci, e0, hI0⟩ := h0.row _ _ rfl k hlt
      cases hd : diffL (ll[k]?.getD []) N
      · have HD := Lib.hid hd
        go_wp2_with (go_at_call 66; refine (different_any _ _ _ _ _ _ (by first | exact hI0 | exact hI0.drewN _ | exact (hI0.drewN _).drewN _ | exact hI0.below (by assumption))).mono ?_; rintro e w' ⟨rfl, q, rfl⟩)
        go_ret2
        exact retRowsE_bad (swapsBad_row (by rw [hl0.out]; omega) HD.out) (Below.drewN0 _ _)
      · have HD := Lib.hid hd
        go_wp2_with (go_at_call 66; refine (different_any _ _ _ _ _ _ (by first | exact hI0 | exact hI0.drewN _ | exact (hI0.drewN _).drewN _ | exact hI0.below (by assumption))).mono ?_; rintro e w' ⟨rfl, q, rfl⟩)
        go_roundw
        case rel => exact ⟨k + 1, by omega, by go_num, Lib.hid (allDiff_step (by rw [hl0.out]; omega) HL.out HD.out), (by first | exact ⟨_, rfl⟩ | exact ⟨_, World.drewN_drewN⟩ | exact ⟨0, rfl⟩ | exact ⟨_, by simp only [World.drewN_drewN]; rfl⟩)⟩
        case measure => simp [intOf]; omega
    · obtain rfl : m = k := by omega
      have hok : swapsBad N ll = false := swapsBad_ok (by omega) (by rw [hl0.out]; exact HL.out)
      have HOK := Lib.hid hok
      clear hok HL
      go_wp2_with fail
      go_loopw [7, 8, 9] (fun v i _ wr => ∃ k : Nat, k ≤ m ∧ i = .int .i64 k ∧ OwnRows wr w.heap.size 22 v (swapRows N ll k) ∧ Below w.heap.size w wr) (fun _ i _ _ => m - (intOf i).toNat)
      case atStart => exact ⟨0, by omega, rfl, OwnRows.made0 _ _ _ (Nat.le_refl _), (Below.drewN0 _ _).alloc (Nat.le_refl _) _⟩
      case round =>
        obtain ⟨k, hk, rfl, hO, hB⟩ := hrel
        have hsz := hB.size
        by_cases hlt : k < m
        · go_wp2_with fail
          go_loopw [7, 9] (fun v j wr => ∃ t : Nat, k + 1 ≤ t ∧ t ≤ m ∧ j = .int .i64 t ∧ OwnRows wr w.heap.size 22 v (swapRows N ll k ++ swapRow N ll k (t - (k + 1))) ∧ Below w.heap.size w wr) (fun _ j _ => m - (intOf j).toNat)
          case atStart => exact ⟨k + 1, by omega, by omega, by go_num, by simpa [swapRow] using hO, hB⟩
          case round =>
            clear hO hB hsz
            obtain ⟨t, ht, htm, rfl, hO, hB⟩ := hrel
            have hsz := hB.size
            by_cases hlc : t < m
            · obtain ⟨b0, o0, rfl, hb0⟩ := h0.at' (by omega)
              obtain ⟨ai, ni, ci, e0', hI0'⟩ := h0.row _ _ rfl k hlt
              obtain ⟨aj, nj, cj, e1', hI1'⟩ := h0.row _ _ rfl t hlc
              have e0 := (hB.cell (p := ⟨b0, o0 + k, none⟩) hb0).trans e0'
              have e1 := (hB.cell (p := ⟨b0, o0 + t, none⟩) hb0).trans e1'
              have hI0 := hI0'.below hB
              have hI1 := hI1'.below hB
              have hm3 := hI0.mx
              have hm4 := hI1.mx
              have hc3 := hI0.cap
              have hc4 := hI1.cap
              have LI := Lib.hid hI0.len
              have LJ := Lib.hid hI1.len
              have LL := rows_len_le (N := N) (c := t - (k + 1)) hl0.out hm hlt (by omega)
              unfold maxLen at hm3 hm4
              clear e0' e1' hI0' hI1'
              by_cases hp : 0 < ni
              · have tp : decide (0 < (ni : Int)) = true := by simp; omega
                have tp' : decide (0 < ni) = true := by simp; omega
                by_cases he : ni = nj
                · subst he
                  have te : ((ni : Int) == (ni : Int)) = true := by simp
                  cases ha : apartL (ll[k]?.getD []) (ll[t]?.getD [])
                  · have HA := Lib.hid ha
                    have HN := Lib.hid (swapPair_no (n := N) (ll := ll) (i := k) (j := t) (by rw [HA.out]; simp))
                    clear te hp
                    go_wp2_with (go_quiet ((go_at_call 67; first | exact quiet_ofY (apart_any _ _ _ _ _ _ _ _ _ (by first | exact hI0 | exact hI0.drewN _ | exact (hI0.drewN _).drewN _ | exact hI0.below (by assumption)) (by first | exact hI1 | exact hI1.drewN _ | exact (hI1.drewN _).drewN _ | exact hI1.below (by assumption))) | exact quiet_ofX (apart_any _ _ _ _ _ _ _ _ _ (by first | exact hI0 | exact hI0.drewN _ | exact (hI0.drewN _).drewN _ | exact hI0.below (by assumption)) (by first | exact hI1 | exact hI1.drewN _ | exact (hI1.drewN _).drewN _ | exact hI1.below (by assumption))) (by first | exact ⟨_, rfl⟩ | exact ⟨_, World.drewN_drewN.symm⟩ | exact ⟨0, rfl⟩))))
                    go_roundw
                    case rel => exact ⟨t + 1, by omega, by omega, by go_num, by rw [swapRow_next ht, HN.out, List.append_nil]; exact hO.drewN _, below_drewN hB _⟩
                    case measure => simp [intOf]; omega
                  · have HA := Lib.hid ha
                    have HN := Lib.hid (swapPair_yes (n := N) (ll := ll) (i := k) (j := t) ⟨by rw [LI.out]; omega, by rw [LI.out, LJ.out], HA.out⟩)
                    obtain ⟨us, hus, hE⟩ := hO
                    clear te hp
                    go_wp2_with (go_quiet ((go_at_call 67; first | exact quiet_ofY (apart_any _ _ _ _ _ _ _ _ _ (by first | exact hI0 | exact hI0.drewN _ | exact (hI0.drewN _).drewN _ | exact hI0.below (by assumption)) (by first | exact hI1 | exact hI1.drewN _ | exact (hI1.drewN _).drewN _ | exact hI1.below (by assumption))) | exact quiet_ofX (apart_any _ _ _ _ _ _ _ _ _ (by first | exact hI0 | exact hI0.drewN _ | exact (hI0.drewN _).drewN _ | exact hI0.below (by assumption)) (by first | exact hI1 | exact hI1.drewN _ | exact (hI1.drewN _).drewN _ | exact hI1.below (by assumption))) (by first | exact ⟨_, rfl⟩ | exact ⟨_, World.drewN_drewN.symm⟩ | exact ⟨0, rfl⟩))))
                    go_region_law (first | (refine step_append_own2 rfl _ _ 28 rfl w.heap.size 22 i22 (.slice none 0 0) 1 24 Try.underlying28 hi22 hz220 hz221 hz222 rfl (by decide) _ _ _ (hus1.alloc _) rfl ⟨_, 0, none⟩ 1 1 [(.slice a1 _ c1)] rfl rfl (cell_one_new _ _ _) (by simp [Value.oneCell']) (by unfold maxLen; omega) (by omega) (by first | omega | (simp; omega)) ?_; intro v' w1 hown' hgrow hfr) | (go_simp; go_at_call 68; refine (swap_any N _ _ _ _ _ _ _ _ (hI0.below (by first | exact Below.refl _ _ | exact Below.drewN0 _ _ | exact (Below.drewN0 _ _).drew | exact (Below.refl _ _).drew | exact below_drewN (Below.drewN0 _ _) _)) (hI1.below (by first | exact Below.refl _ _ | exact Below.drewN0 _ _ | exact (Below.drewN0 _ _).drew | exact (Below.refl _ _).drew | exact below_drewN (Below.drewN0 _ _) _)) (by omega)).mono ?_; rintro e w2 ⟨v, rfl, hO1, hB1⟩; obtain ⟨a1, c1, rfl, hI2⟩ := hO1.ints; have hus1 := ownsRow_below' (ownsRow_below' hus (by first | exact Below.refl _ _ | exact Below.drewN0 _ _ | exact (Below.drewN0 _ _).drew | exact (Below.refl _ _).drew | exact below_drewN (Below.drewN0 _ _) _)) hB1; have hsz2 : w.heap.size ≤ w2.heap.size := Nat.le_trans hsz hB1.size))
                    all_goals
                      go_wp2
                      go_roundw
                      case rel =>
                        refine ⟨t + 1, by omega, by omega, by go_num, ?_, ?_⟩
                        · rw [swapRow_next ht, HN.out, ← List.append_assoc]
                          exact OwnRows.push (hE.mono fun _ _ hu => (hu.below (by first | exact Below.refl _ _ | exact Below.drewN0 _ _ | exact (Below.drewN0 _ _).drew | exact (Below.refl _ _).drew | exact below_drewN (Below.drewN0 _ _) _)).below hB1 |>.below ((Below.refl _ _).alloc (Nat.le_refl _) _)) hown' hgrow hfr (hI2.below ((Below.refl _ _).alloc (Nat.le_refl _) _)) (fresh_ne hO1 hus (Nat.le_refl _))
                        · exact ((Below.on (Below.on hB (by first | exact Below.refl _ _ | exact Below.drewN0 _ _ | exact (Below.drewN0 _ _).drew | exact (Below.refl _ _).drew | exact below_drewN (Below.drewN0 _ _) _)) hB1).alloc hsz2 _).grown hgrow (by simp; omega) (fun q e => (hus.lt q e).1)
                      case measure => simp [intOf]; omega
                · have te : ((ni : Int) == (nj : Int)) = false := by simp; omega
                  have hno := swapPair_no (n := N) (ll := ll) (i := k) (j := t) (by rw [LI.out, LJ.out]; omega)
                  have HN := Lib.hid hno
                  clear hno he
                  go_wp2_with (go_quiet (fail))
                  go_roundw
                  case rel => exact ⟨t + 1, by omega, by omega, by go_num, by rw [swapRow_next ht, HN.out, List.append_nil]; exact hO.drewN _, below_drewN hB _⟩
                  case measure => simp [intOf]; omega
              · have tp : decide (0 < (ni : Int)) = false := by simp; omega
                have tp' : decide (0 < ni) = false := by simp; omega
                have hno := swapPair_no (n := N) (ll := ll) (i := k) (j := t) (by rw [LI.out]; omega)
                have HN := Lib.hid hno
                clear hno hp
                go_wp2_with (go_quiet (fail))
                go_roundw
                case rel => exact ⟨t + 1, by omega, by omega, by go_num, by rw [swapRow_next ht, HN.out, List.append_nil]; exact hO.drewN _, below_drewN hB _⟩
                case measure => simp [intOf]; omega
            · obtain rfl : m = t := by omega
              go_wp2_with fail
              go_roundw
              case rel => exact ⟨k + 1, by omega, by go_num, by rw [swapRows_succ, hl0.out]; exact hO, hB⟩
              case measure => simp [intOf]; omega
        · obtain rfl : m = k := by omega
          go_wp2_with fail
          go_ret2
          exact retRowsE_ok HOK.out (by rw [hl0.out]; exact hO) hB
end Go.Proofs.Ytjiacdihfbbfjaa

