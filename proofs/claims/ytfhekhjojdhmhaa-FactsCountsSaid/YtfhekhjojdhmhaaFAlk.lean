/- Contracts of facts.Alike and ref.Alike. -/
import Derived.Test.YtfhekhjojdhmhaaFPnt
import Derived.Test.YtfhekhjojdhmhaaFEq
import Derived.Deep.RegionHeld3
import Derived.WalkKit
import Derived.WalkSpells
import Derived.WalkLawsBesides
import Derived.Deep.LoopGhost
import Derived.Deep.QuietTactic
import Derived.BigQuiet
import Derived.StillTailTactics
import Derived.Lib.Hide
import Derived.Outline
import Derived.Lib.QuietBelow
namespace Go.Proofs.Ytfhekhjojdhmhaa
open Go.RowKit

structure Rd where
  kd : Int
  sb : Int
  ob : Int
  fr : Int
  til : Int
def Rd.key (r : Rd) : Key := ⟨r.kd, r.sb, r.ob⟩
def encR (r : Rd) : List Value := [iv r.kd, iv r.sb, iv r.ob, iv r.fr, iv r.til]
theorem encR_len (r : Rd) : (encR r).length = 5 := rfl
theorem SL.read {w : World} {b o n c : Nat} {l : List Rd} {i : Nat} {f : Rd} (h : SL encR 5 w (some ⟨b, o, none⟩) n c l) (hf : l[i]? = some f) :
    w.cell? ⟨b, o + i * 5, none⟩ = some (.int .i64 f.kd) ∧ w.cell? ⟨b, o + i * 5 + 1, none⟩ = some (.int .i64 f.sb) ∧ w.cell? ⟨b, o + i * 5 + 2, none⟩ = some (.int .i64 f.ob) ∧ w.cell? ⟨b, o + i * 5 + 3, none⟩ = some (.int .i64 f.fr) ∧ w.cell? ⟨b, o + i * 5 + 4, none⟩ = some (.int .i64 f.til) :=
  ⟨h.cell _ _ rfl i f hf 0 _ rfl, h.cell _ _ rfl i f hf 1 _ rfl, h.cell _ _ rfl i f hf 2 _ rfl, h.cell _ _ rfl i f hf 3 _ rfl, h.cell _ _ rfl i f hf 4 _ rfl⟩
def rdPts (l : List Fact) (known : Int) (r : Rd) : List (Int × Int) := pointsL l r.key r.fr r.til known
def alikeB (l : List Fact) (reads : List Rd) (before after : Int) : Bool := reads.all fun r => decide (rdPts l before r = rdPts l after r)
def At5 (w : World) (b : Nat) (r : Rd) : Prop := (w.cell? ⟨b, 0, none⟩ = some (.int .i64 r.kd) ∧ w.cell? ⟨b, 1, none⟩ = some (.int .i64 r.sb) ∧ w.cell? ⟨b, 2, none⟩ = some (.int .i64 r.ob) ∧ w.cell? ⟨b, 3, none⟩ = some (.int .i64 r.fr) ∧ w.cell? ⟨b, 4, none⟩ = some (.int .i64 r.til))
theorem At5.below {w w' : World} {b : Nat} {r : Rd} (h : At5 w b r) (hb : Below w.heap.size w w') : At5 w' b r := by
  obtain ⟨h0, h1, h2, h3, h4⟩ := h
  have l := World.block_lt_of_cell? w _ h0
  exact ⟨(hb.cell (p := ⟨b, 0, none⟩) l).trans h0, (hb.cell (p := ⟨b, 1, none⟩) l).trans h1, (hb.cell (p := ⟨b, 2, none⟩) l).trans h2, (hb.cell (p := ⟨b, 3, none⟩) l).trans h3, (hb.cell (p := ⟨b, 4, none⟩) l).trans h4⟩
theorem keepR {w0 w w' : World} {b : Nat} {r : Rd} (h : At5 w b r ∧ Below w0.heap.size w0 w) (hb : Below w.heap.size w w') : At5 w' b r ∧ Below w0.heap.size w0 w' := ⟨h.1.below hb, h.2.on hb⟩
/-- What Points returns, as its reader sees it. -/
def RetPts (w : World) (ps : List (Int × Int)) (e : Ending) (w' : World) : Prop := ∃ a n c, e = .returned (.slice a n c) ∧ SL encP 2 w' a n c ps ∧ Below w.heap.size w w'
theorem RetPts.of {w : World} {ps : List (Int × Int)} {E : TypeId} {e : Ending} {w' : World} (h : RetSL encP 2 w E ps e w') : RetPts w ps e w' := by
  obtain ⟨v, rfl, hO, hB⟩ := h
  obtain ⟨a, c, rfl, hS⟩ := hO.sl encP_len
  exact ⟨a, _, c, rfl, hS, hB⟩

set_option maxRecDepth 20000 in
set_option maxHeartbeats 4000000 in
theorem alike_any (a0 a1 : Option Addr) (n0 c0 n1 c1 : Nat) (l : List Fact) (reads : List Rd) (before after : Int) (w : World) (h0 : SL encF 8 w a0 n0 c0 l) (h1 : SL encR 5 w a1 n1 c1 reads) :
    Calls Try.prog 26 #[.slice a0 n0 c0, .slice a1 n1 c1, .int .i64 before, .int .i64 after] w fun e w' => RetB w (.bool (alikeB l reads before after)) e w' := by
  have hm1 := h1.mx
  have hc1 := h1.cap
  have hl1 := Lib.hid h1.len
  unfold maxLen at hm1
  go_enter Try.func26, Try.ntmps26
  go_wp2_with fail
  go_loopw [13] (fun i wr => ∃ j : Nat, i = .int .i64 j ∧ j ≤ n1 ∧ Hid ((reads.take j).all (fun r => decide (rdPts l before r = rdPts l after r)) = true) ∧ Below w.heap.size w wr) (fun i _ => n1 - (intOf i).toNat)
  case atStart => exact ⟨0, rfl, by omega, Lib.hid rfl, Below.refl _ _⟩
  case round =>
    obtain ⟨j, rfl, hj, HM, hB⟩ := hrel
    by_cases hlt : j < n1
    · obtain ⟨b1, o1, rfl, hb1⟩ := h1.at' (by omega)
      obtain ⟨r, hr⟩ := h1.get hlt
      obtain ⟨e0, e1, e2, e3, e4⟩ := (h1.below hB).read hr
      have HR := Lib.hid hr
      clear hr
      obtain ⟨wv, hwv, hbk, hbox⟩ : ∃ wx, wr.alloc (.cells #[.int .i64 r.kd, .int .i64 r.sb, .int .i64 r.ob, .int .i64 r.fr, .int .i64 r.til] 54) = wx ∧ Below wr.heap.size wr wx ∧ Box wx wr.heap.size #[.int .i64 r.kd, .int .i64 r.sb, .int .i64 r.ob, .int .i64 r.fr, .int .i64 r.til] 54 := ⟨_, rfl, (Below.refl _ _).alloc (Nat.le_refl _) _, Box.new _ _ _⟩
      have hA : At5 wv wr.heap.size r := ⟨by simpa using hbox.cell 0, by simpa using hbox.cell 1, by simpa using hbox.cell 2, by simpa using hbox.cell 3, by simpa using hbox.cell 4⟩
      have hB2 := hB.on hbk
      have HP := Lib.hid (fun (known : Int) (W : World) (hW : Below w.heap.size w W) => (points_any a0 n0 c0 l r.key r.fr r.til known W (h0.below hW)).mono (fun e w' h => RetPts.of h))
      have k1 : (j : Int) < (n1 : Int) := by omega
      cases hd : decide (rdPts l before r = rdPts l after r)
      · have HD := Lib.hid hd
        unfold rdPts at hd
        go_wp2_with fail
        go_region_held3 (fun w' => (w'.cell? ⟨wr.heap.size, 0, none⟩ = some (.int .i64 r.kd) ∧ w'.cell? ⟨wr.heap.size, 1, none⟩ = some (.int .i64 r.sb) ∧ w'.cell? ⟨wr.heap.size, 2, none⟩ = some (.int .i64 r.ob) ∧ w'.cell? ⟨wr.heap.size, 3, none⟩ = some (.int .i64 r.fr) ∧ w'.cell? ⟨wr.heap.size, 4, none⟩ = some (.int .i64 r.til)) ∧ Below wv.heap.size wv w')
          (first | exact ⟨hA, (Below.refl _ _).drew⟩ | exact keepR (by assumption) (by assumption) | exact keepR (by assumption) (Below.drewN0 _ _))
          (first
            | (go_at_call 21; refine (HP.out _ _ (by go_split_ands; exact hB2.on (by assumption))).mono ?_; rintro e w' ⟨a, n, c, rfl, hS, hb⟩)
            | (go_at_call 45; refine (equalP_any _ _ _ _ _ _ _ _ _ (by first | assumption | exact SL.below (by assumption) (by assumption)) (by first | assumption | exact SL.below (by assumption) (by assumption))).mono ?_; rintro e w' ⟨rfl, q, rfl⟩))
        all_goals (
          have hF : Below w.heap.size w (w'.drewN q) := hB2.on (‹At5 (w'.drewN q) wr.heap.size r ∧ Below wv.heap.size wv (w'.drewN q)›).2
          go_wp2_with fail
          go_ret
          refine ⟨ret_bool ?_, hF⟩
          symm
          unfold alikeB
          rw [List.all_eq_false]
          exact ⟨r, List.mem_of_getElem? HR.out, by rw [HD.out]; decide⟩)
      · have HD := Lib.hid hd
        unfold rdPts at hd
        go_wp2_with fail
        go_region_held3 (fun w' => (w'.cell? ⟨wr.heap.size, 0, none⟩ = some (.int .i64 r.kd) ∧ w'.cell? ⟨wr.heap.size, 1, none⟩ = some (.int .i64 r.sb) ∧ w'.cell? ⟨wr.heap.size, 2, none⟩ = some (.int .i64 r.ob) ∧ w'.cell? ⟨wr.heap.size, 3, none⟩ = some (.int .i64 r.fr) ∧ w'.cell? ⟨wr.heap.size, 4, none⟩ = some (.int .i64 r.til)) ∧ Below wv.heap.size wv w')
          (first | exact ⟨hA, (Below.refl _ _).drew⟩ | exact keepR (by assumption) (by assumption) | exact keepR (by assumption) (Below.drewN0 _ _))
          (first
            | (go_at_call 21; refine (HP.out _ _ (by go_split_ands; exact hB2.on (by assumption))).mono ?_; rintro e w' ⟨a, n, c, rfl, hS, hb⟩)
            | (go_at_call 45; refine (equalP_any _ _ _ _ _ _ _ _ _ (by first | assumption | exact SL.below (by assumption) (by assumption)) (by first | assumption | exact SL.below (by assumption) (by assumption))).mono ?_; rintro e w' ⟨rfl, q, rfl⟩))
        all_goals (
          have hF : Below w.heap.size w (w'.drewN q) := hB2.on (‹At5 (w'.drewN q) wr.heap.size r ∧ Below wv.heap.size wv (w'.drewN q)›).2
          go_wp2_with fail
          go_roundw
          case rel =>
            refine ⟨j + 1, by go_num, by omega, Lib.hid ?_, hF⟩
            rw [List.take_add_one, HR.out, List.all_append, HM.out]
            simp only [Option.toList, List.all_cons, HD.out, List.all_nil]; rfl
          case measure => simp [intOf]; omega)
    · obtain rfl : j = n1 := by omega
      go_wp2_with fail
      go_ret
      exact ⟨ret_bool (by rw [List.take_of_length_le (by rw [hl1.out]; exact Nat.le_refl _)] at HM; exact HM.out.symm), hB⟩
set_option maxRecDepth 20000 in
set_option maxHeartbeats 4000000 in
theorem ralike_any (a0 a1 : Option Addr) (n0 c0 n1 c1 : Nat) (l : List Fact) (reads : List Rd) (before after : Int) (w : World) (h0 : SL encF 8 w a0 n0 c0 l) (h1 : SL encR 5 w a1 n1 c1 reads) :
    Calls Try.prog 27 #[.slice a0 n0 c0, .slice a1 n1 c1, .int .i64 before, .int .i64 after] w fun e w' => RetB w (.bool (alikeB l reads before after)) e w' := by
  have hm1 := h1.mx
  have hc1 := h1.cap
  have hl1 := Lib.hid h1.len
  unfold maxLen at hm1
  go_enter Try.func27, Try.ntmps27
  go_wp2_with fail
  go_loopw [9] (fun i wr => ∃ j : Nat, i = .int .i64 j ∧ j ≤ n1 ∧ Hid ((reads.take j).all (fun r => decide (rdPts l before r = rdPts l after r)) = true) ∧ Below w.heap.size w wr) (fun i _ => n1 - (intOf i).toNat)
  case atStart => exact ⟨0, rfl, by omega, Lib.hid rfl, Below.refl _ _⟩
  case round =>
    obtain ⟨j, rfl, hj, HM, hB⟩ := hrel
    by_cases hlt : j < n1
    · obtain ⟨b1, o1, rfl, hb1⟩ := h1.at' (by omega)
      obtain ⟨r, hr⟩ := h1.get hlt
      obtain ⟨e0, e1, e2, e3, e4⟩ := (h1.below hB).read hr
      have HR := Lib.hid hr
      clear hr
      obtain ⟨wv, hwv, hbk, hbox⟩ : ∃ wx, wr.alloc (.cells #[.int .i64 r.kd, .int .i64 r.sb, .int .i64 r.ob, .int .i64 r.fr, .int .i64 r.til] 54) = wx ∧ Below wr.heap.size wr wx ∧ Box wx wr.heap.size #[.int .i64 r.kd, .int .i64 r.sb, .int .i64 r.ob, .int .i64 r.fr, .int .i64 r.til] 54 := ⟨_, rfl, (Below.refl _ _).alloc (Nat.le_refl _) _, Box.new _ _ _⟩
      have hA : At5 wv wr.heap.size r := ⟨by simpa using hbox.cell 0, by simpa using hbox.cell 1, by simpa using hbox.cell 2, by simpa using hbox.cell 3, by simpa using hbox.cell 4⟩
      have hB2 := hB.on hbk
      have HP := Lib.hid (fun (known : Int) (W : World) (hW : Below w.heap.size w W) => (rpoints_any a0 n0 c0 l r.key r.fr r.til known W (h0.below hW)).mono (fun e w' h => RetPts.of h))
      have k1 : (j : Int) < (n1 : Int) := by omega
      cases hd : decide (rdPts l before r = rdPts l after r)
      · have HD := Lib.hid hd
        unfold rdPts at hd
        go_wp2_with fail
        go_region_held3 (fun w' => (w'.cell? ⟨wr.heap.size, 0, none⟩ = some (.int .i64 r.kd) ∧ w'.cell? ⟨wr.heap.size, 1, none⟩ = some (.int .i64 r.sb) ∧ w'.cell? ⟨wr.heap.size, 2, none⟩ = some (.int .i64 r.ob) ∧ w'.cell? ⟨wr.heap.size, 3, none⟩ = some (.int .i64 r.fr) ∧ w'.cell? ⟨wr.heap.size, 4, none⟩ = some (.int .i64 r.til)) ∧ Below wv.heap.size wv w')
          (first | exact ⟨hA, (Below.refl _ _).drew⟩ | exact keepR (by assumption) (by assumption) | exact keepR (by assumption) (Below.drewN0 _ _))
          (first
            | (go_at_call 22; refine (HP.out _ _ (by go_split_ands; exact hB2.on (by assumption))).mono ?_; rintro e w' ⟨a, n, c, rfl, hS, hb⟩)
            | (go_at_call 20; refine (samePoints_any _ _ _ _ _ _ _ _ _ (by first | assumption | exact SL.below (by assumption) (by assumption)) (by first | assumption | exact SL.below (by assumption) (by assumption))).mono ?_; rintro e w' ⟨rfl, q, rfl⟩))
        all_goals (
          have hF : Below w.heap.size w (w'.drewN q) := hB2.on (‹At5 (w'.drewN q) wr.heap.size r ∧ Below wv.heap.size wv (w'.drewN q)›).2
          go_wp2_with fail
          go_ret
          refine ⟨ret_bool ?_, hF⟩
          symm
          unfold alikeB
          rw [List.all_eq_false]
          exact ⟨r, List.mem_of_getElem? HR.out, by rw [HD.out]; decide⟩)
      · have HD := Lib.hid hd
        unfold rdPts at hd
        go_wp2_with fail
        go_region_held3 (fun w' => (w'.cell? ⟨wr.heap.size, 0, none⟩ = some (.int .i64 r.kd) ∧ w'.cell? ⟨wr.heap.size, 1, none⟩ = some (.int .i64 r.sb) ∧ w'.cell? ⟨wr.heap.size, 2, none⟩ = some (.int .i64 r.ob) ∧ w'.cell? ⟨wr.heap.size, 3, none⟩ = some (.int .i64 r.fr) ∧ w'.cell? ⟨wr.heap.size, 4, none⟩ = some (.int .i64 r.til)) ∧ Below wv.heap.size wv w')
          (first | exact ⟨hA, (Below.refl _ _).drew⟩ | exact keepR (by assumption) (by assumption) | exact keepR (by assumption) (Below.drewN0 _ _))
          (first
            | (go_at_call 22; refine (HP.out _ _ (by go_split_ands; exact hB2.on (by assumption))).mono ?_; rintro e w' ⟨a, n, c, rfl, hS, hb⟩)
            | (go_at_call 20; refine (samePoints_any _ _ _ _ _ _ _ _ _ (by first | assumption | exact SL.below (by assumption) (by assumption)) (by first | assumption | exact SL.below (by assumption) (by assumption))).mono ?_; rintro e w' ⟨rfl, q, rfl⟩))
        all_goals (
          have hF : Below w.heap.size w (w'.drewN q) := hB2.on (‹At5 (w'.drewN q) wr.heap.size r ∧ Below wv.heap.size wv (w'.drewN q)›).2
          go_wp2_with fail
          go_roundw
          case rel =>
            refine ⟨j + 1, by go_num, by omega, Lib.hid ?_, hF⟩
            rw [List.take_add_one, HR.out, List.all_append, HM.out]
            simp only [Option.toList, List.all_cons, HD.out, List.all_nil]; rfl
          case measure => simp [intOf]; omega)
    · obtain rfl : j = n1 := by omega
      go_wp2_with fail
      go_ret
      exact ⟨ret_bool (by rw [List.take_of_length_le (by rw [hl1.out]; exact Nat.le_refl _)] at HM; exact HM.out.symm), hB⟩
end Go.Proofs.Ytfhekhjojdhmhaa
