/- Contracts of Check, Compose, Inverse (both), Identity. -/
import Derived.Test.YtkekkbbdhdamjaaPCmp
import Derived.WalkKit
import Derived.WalkSpells
import Derived.WalkLawsBesides
import Derived.Deep.LoopGhost
import Derived.Deep.QuietTactic
import Derived.BigQuiet
import Derived.StillTailTactics
import Derived.Lib.Hide
import Derived.Outline
import Derived.Lib.QuietBelow
namespace Go.Proofs.Ytkekkbbdhdamjaa
open Go.RowKit

def checkE (p : List Int) (n : Int) : Int := if n < 0 ∨ 256 < n then 1 else if permB p n.toNat then 0 else 110

set_option maxHeartbeats 4000000 in
theorem check_any (a : Option Addr) (m c : Nat) (p : List Int) (n : Int) (W : World) (hI : Ints W a m c p) :
    Calls Try.prog 15 #[.slice a m c, .int .i64 n] W (RetB W (.int .i64 (checkE p n))) := by
  by_cases h0 : n < 0
  · have HE : Hid (checkE p n = 1) := Lib.hid (by unfold checkE; rw [if_pos (.inl h0)])
    go_enter Try.func15, Try.ntmps15
    go_wp2_with fail
    go_ret
    exact ⟨ret_int HE.out.symm, Below.refl _ _⟩
  · by_cases h1 : 256 < n
    · have HE : Hid (checkE p n = 1) := Lib.hid (by unfold checkE; rw [if_pos (.inr h1)])
      go_enter Try.func15, Try.ntmps15
      go_wp2_with fail
      go_ret
      exact ⟨ret_int HE.out.symm, Below.refl _ _⟩
    · obtain ⟨N, rfl⟩ : ∃ N : Nat, n = (N : Int) := ⟨n.toNat, by omega⟩
      have hP := permutes_any a m c p N W hI (by omega)
      have hE : checkE p (N : Int) = if permB p N then 0 else 110 := by unfold checkE; rw [if_neg (by omega)]; simp
      cases hb : permB p N
      · rw [hb] at hE hP
        have HE := Lib.hid hE
        clear hE hb
        go_enter Try.func15, Try.ntmps15
        go_wp2_with fail
        refine hP.mono ?_
        rintro e w1 ⟨rfl, hB⟩
        clear hP
        go_wp2_with fail
        go_ret
        exact ⟨ret_int (by rw [HE.out]; rfl), hB⟩
      · rw [hb] at hE hP
        have HE := Lib.hid hE
        clear hE hb
        go_enter Try.func15, Try.ntmps15
        go_wp2_with fail
        refine hP.mono ?_
        rintro e w1 ⟨rfl, hB⟩
        clear hP
        go_wp2_with fail
        go_ret
        exact ⟨ret_int (by rw [HE.out]; rfl), hB⟩
set_option maxHeartbeats 4000000 in
theorem rcheck_any (a : Option Addr) (m c : Nat) (p : List Int) (n : Int) (W : World) (hI : Ints W a m c p) :
    Calls Try.prog 16 #[.slice a m c, .int .i64 n] W (RetB W (.int .i64 (checkE p n))) := by
  by_cases h0 : n < 0
  · have HE : Hid (checkE p n = 1) := Lib.hid (by unfold checkE; rw [if_pos (.inl h0)])
    go_enter Try.func16, Try.ntmps16
    go_wp2_with fail
    go_ret
    exact ⟨ret_int HE.out.symm, Below.refl _ _⟩
  · by_cases h1 : 256 < n
    · have HE : Hid (checkE p n = 1) := Lib.hid (by unfold checkE; rw [if_pos (.inr h1)])
      go_enter Try.func16, Try.ntmps16
      go_wp2_with fail
      go_ret
      exact ⟨ret_int HE.out.symm, Below.refl _ _⟩
    · obtain ⟨N, rfl⟩ : ∃ N : Nat, n = (N : Int) := ⟨n.toNat, by omega⟩
      have hP := is_any a m c p N W hI (by omega)
      have hE : checkE p (N : Int) = if permB p N then 0 else 110 := by unfold checkE; rw [if_neg (by omega)]; simp
      cases hb : permB p N
      · rw [hb] at hE hP
        have HE := Lib.hid hE
        clear hE hb
        go_enter Try.func16, Try.ntmps16
        go_wp2_with fail
        refine hP.mono ?_
        rintro e w1 ⟨rfl, hB⟩
        clear hP
        go_wp2_with fail
        go_ret
        exact ⟨ret_int (by rw [HE.out]; rfl), hB⟩
      · rw [hb] at hE hP
        have HE := Lib.hid hE
        clear hE hb
        go_enter Try.func16, Try.ntmps16
        go_wp2_with fail
        refine hP.mono ?_
        rintro e w1 ⟨rfl, hB⟩
        clear hP
        go_wp2_with fail
        go_ret
        exact ⟨ret_int (by rw [HE.out]; rfl), hB⟩

/-- Whether two lists are permutations of the same number of numbers. -/
def compB (a b : List Int) : Bool := decide (a.length ≤ 256) && permB a a.length && permB b a.length
def compL (a b : List Int) : List Int := if compB a b then prodL a b else []
def compE (a b : List Int) : Int := if compB a b then 0 else 110

set_option maxHeartbeats 4000000 in
theorem compose_any (a0 a1 : Option Addr) (m c n d : Nat) (a b : List Int) (W : World) (h0 : Ints W a0 m c a) (h1 : Ints W a1 n d b) :
    Calls Try.prog 11 #[.slice a0 m c, .slice a1 n d] W (RetOwnE W 3 (compL a b) (compE a b)) := by
  have hl := h0.len
  have hl1 := Lib.hid h1.len
  by_cases h2 : m ≤ 256
  · have c1 : ¬ (256 : Int) < (m : Int) := by omega
    have hC : compB a b = (permB a m && permB b m) := by unfold compB; rw [hl, decide_eq_true h2, Bool.true_and]
    have hP := permutes_any a0 m c a m W h0 (by omega)
    cases hb : permB a m
    · rw [hb] at hP hC
      have HL : Hid (compL a b = [] ∧ compE a b = 110) := Lib.hid (by unfold compL compE; rw [hC]; exact ⟨rfl, rfl⟩)
      clear hl hC hb
      go_enter Try.func11, Try.ntmps11
      go_wp2_with fail
      refine hP.mono ?_
      rintro e w1 ⟨rfl, hB⟩
      clear hP
      go_wp2_with fail
      (refine bodyPost_ret (v := .tuple #[.slice none 0 0, .int .i64 110]) (by simp [results, Try.results11, go_sem]) rfl ?_)
      exact ⟨_, by rw [HL.out.2], by rw [HL.out.1]; exact OwnInts.nil _ _ _, hB⟩
    · have HA := Lib.hid (permB_iff.1 hb)
      rw [hb] at hP hC
      have HQ := Lib.hid (fun (V : World) (hV : Below W.heap.size W V) => permutes_any a1 n d b m V (h1.below hV) (by omega))
      cases hb2 : permB b m
      · rw [hb2] at hC HQ
        have HL : Hid (compL a b = [] ∧ compE a b = 110) := Lib.hid (by unfold compL compE; rw [hC]; exact ⟨rfl, rfl⟩)
        clear hl hC hb hb2
        go_enter Try.func11, Try.ntmps11
        go_wp2_with fail
        refine hP.mono ?_
        rintro e w1 ⟨rfl, hB⟩
        clear hP
        go_wp2_with fail
        refine (HQ.out w1 hB).mono ?_
        rintro e w2 ⟨rfl, hB2⟩
        go_wp2_with fail
        (refine bodyPost_ret (v := .tuple #[.slice none 0 0, .int .i64 110]) (by simp [results, Try.results11, go_sem]) rfl ?_)
        exact ⟨_, by rw [HL.out.2], by rw [HL.out.1]; exact OwnInts.nil _ _ _, hB.on hB2⟩
      · have HBP := Lib.hid (permB_iff.1 hb2)
        rw [hb2] at hC HQ
        have HL : Hid (compL a b = prodL a b ∧ compE a b = 0) := Lib.hid (by unfold compL compE; rw [hC]; exact ⟨rfl, rfl⟩)
        have hnm : n ≤ 1000000 := by have := HBP.out.len; rw [hl1.out] at this; omega
        clear hl hC hb hb2
        go_enter Try.func11, Try.ntmps11
        go_wp2_with fail
        refine hP.mono ?_
        rintro e w1 ⟨rfl, hB⟩
        clear hP
        go_wp2_with fail
        refine (HQ.out w1 hB).mono ?_
        rintro e w2 ⟨rfl, hB2⟩
        go_wp2_with fail
        refine (after_any a0 a1 m c n d a b w2 (h0.below (hB.on hB2)) (h1.below (hB.on hB2)) HBP.out.rng hnm).mono ?_
        rintro e w3 ⟨v, rfl, hO, hB3⟩
        go_wp2_with fail
        (refine bodyPost_ret (v := .tuple #[v, .int .i64 0]) (by simp [results, Try.results11, go_sem]) rfl ?_)
        exact ⟨_, by rw [HL.out.2], by rw [HL.out.1]; exact hO.mono (hB.on hB2).size, (hB.on hB2).on hB3⟩
  · have c1 : (256 : Int) < (m : Int) := by omega
    have HL : Hid (compL a b = [] ∧ compE a b = 110) := Lib.hid (by unfold compL compE compB; rw [hl, decide_eq_false h2]; exact ⟨rfl, rfl⟩)
    clear hl h2
    go_enter Try.func11, Try.ntmps11
    go_wp2_with fail
    (refine bodyPost_ret (v := .tuple #[.slice none 0 0, .int .i64 110]) (by simp [results, Try.results11, go_sem]) rfl ?_)
    exact ⟨_, by rw [HL.out.2], by rw [HL.out.1]; exact OwnInts.nil _ _ _, Below.refl _ _⟩
set_option maxHeartbeats 4000000 in
theorem rcompose_any (a0 a1 : Option Addr) (m c n d : Nat) (a b : List Int) (W : World) (h0 : Ints W a0 m c a) (h1 : Ints W a1 n d b) :
    Calls Try.prog 12 #[.slice a0 m c, .slice a1 n d] W (RetOwnE W 3 (compL a b) (compE a b)) := by
  have hl := h0.len
  have hl1 := Lib.hid h1.len
  by_cases h2 : m ≤ 256
  · have c1 : ¬ (256 : Int) < (m : Int) := by omega
    have hC : compB a b = (permB a m && permB b m) := by unfold compB; rw [hl, decide_eq_true h2, Bool.true_and]
    have hP := is_any a0 m c a m W h0 (by omega)
    cases hb : permB a m
    · rw [hb] at hP hC
      have HL : Hid (compL a b = [] ∧ compE a b = 110) := Lib.hid (by unfold compL compE; rw [hC]; exact ⟨rfl, rfl⟩)
      clear hl hC hb
      go_enter Try.func12, Try.ntmps12
      go_wp2_with fail
      refine hP.mono ?_
      rintro e w1 ⟨rfl, hB⟩
      clear hP
      go_wp2_with fail
      (refine bodyPost_ret (v := .tuple #[.slice none 0 0, .int .i64 110]) (by simp [results, Try.results12, go_sem]) rfl ?_)
      exact ⟨_, by rw [HL.out.2], by rw [HL.out.1]; exact OwnInts.nil _ _ _, hB⟩
    · have HA := Lib.hid (permB_iff.1 hb)
      rw [hb] at hP hC
      have HQ := Lib.hid (fun (V : World) (hV : Below W.heap.size W V) => is_any a1 n d b m V (h1.below hV) (by omega))
      cases hb2 : permB b m
      · rw [hb2] at hC HQ
        have HL : Hid (compL a b = [] ∧ compE a b = 110) := Lib.hid (by unfold compL compE; rw [hC]; exact ⟨rfl, rfl⟩)
        clear hl hC hb hb2
        go_enter Try.func12, Try.ntmps12
        go_wp2_with fail
        refine hP.mono ?_
        rintro e w1 ⟨rfl, hB⟩
        clear hP
        go_wp2_with fail
        refine (HQ.out w1 hB).mono ?_
        rintro e w2 ⟨rfl, hB2⟩
        go_wp2_with fail
        (refine bodyPost_ret (v := .tuple #[.slice none 0 0, .int .i64 110]) (by simp [results, Try.results12, go_sem]) rfl ?_)
        exact ⟨_, by rw [HL.out.2], by rw [HL.out.1]; exact OwnInts.nil _ _ _, hB.on hB2⟩
      · have HBP := Lib.hid (permB_iff.1 hb2)
        rw [hb2] at hC HQ
        have HL : Hid (compL a b = prodL a b ∧ compE a b = 0) := Lib.hid (by unfold compL compE; rw [hC]; exact ⟨rfl, rfl⟩)
        have hnm : n ≤ 1000000 := by have := HBP.out.len; rw [hl1.out] at this; omega
        clear hl hC hb hb2
        go_enter Try.func12, Try.ntmps12
        go_wp2_with fail
        refine hP.mono ?_
        rintro e w1 ⟨rfl, hB⟩
        clear hP
        go_wp2_with fail
        refine (HQ.out w1 hB).mono ?_
        rintro e w2 ⟨rfl, hB2⟩
        go_wp2_with fail
        refine (product_any a0 a1 m c n d a b w2 (h0.below (hB.on hB2)) (h1.below (hB.on hB2)) HBP.out.rng hnm).mono ?_
        rintro e w3 ⟨v, rfl, hO, hB3⟩
        go_wp2_with fail
        (refine bodyPost_ret (v := .tuple #[v, .int .i64 0]) (by simp [results, Try.results12, go_sem]) rfl ?_)
        exact ⟨_, by rw [HL.out.2], by rw [HL.out.1]; exact hO.mono (hB.on hB2).size, (hB.on hB2).on hB3⟩
  · have c1 : (256 : Int) < (m : Int) := by omega
    have HL : Hid (compL a b = [] ∧ compE a b = 110) := Lib.hid (by unfold compL compE compB; rw [hl, decide_eq_false h2]; exact ⟨rfl, rfl⟩)
    clear hl h2
    go_enter Try.func12, Try.ntmps12
    go_wp2_with fail
    (refine bodyPost_ret (v := .tuple #[.slice none 0 0, .int .i64 110]) (by simp [results, Try.results12, go_sem]) rfl ?_)
    exact ⟨_, by rw [HL.out.2], by rw [HL.out.1]; exact OwnInts.nil _ _ _, Below.refl _ _⟩

def invB (p : List Int) : Bool := decide (p.length ≤ 256) && permB p p.length
def invLL (p : List Int) : List Int := if invB p then invP p p.length else []
def invE (p : List Int) : Int := if invB p then 0 else 110

set_option maxHeartbeats 4000000 in
theorem inverse_any (a0 : Option Addr) (m c : Nat) (p : List Int) (W : World) (h0 : Ints W a0 m c p) :
    Calls Try.prog 13 #[.slice a0 m c] W (RetOwnE W 3 (invLL p) (invE p)) := by
  have hl := h0.len
  by_cases h2 : m ≤ 256
  · have c1 : ¬ (256 : Int) < (m : Int) := by omega
    have hC : invB p = permB p m := by unfold invB; rw [hl, decide_eq_true h2, Bool.true_and]
    have hP := permutes_any a0 m c p m W h0 (by omega)
    cases hb : permB p m
    · rw [hb] at hP hC
      have HL : Hid (invLL p = [] ∧ invE p = 110) := Lib.hid (by unfold invLL invE; rw [hC]; exact ⟨rfl, rfl⟩)
      clear hl hC hb
      go_enter Try.func13, Try.ntmps13
      go_wp2_with fail
      refine hP.mono ?_
      rintro e w1 ⟨rfl, hB⟩
      clear hP
      go_wp2_with fail
      (refine bodyPost_ret (v := .tuple #[.slice none 0 0, .int .i64 110]) (by simp [results, Try.results13, go_sem]) rfl ?_)
      exact ⟨_, by rw [HL.out.2], by rw [HL.out.1]; exact OwnInts.nil _ _ _, hB⟩
    · have HA := Lib.hid (permB_iff.1 hb)
      rw [hb] at hP hC
      have HL : Hid (invLL p = invP p m ∧ invE p = 0) := Lib.hid (by unfold invLL invE; rw [hC, hl]; exact ⟨rfl, rfl⟩)
      have HLEN := Lib.hid hl
      have hmk := make_intsP m (by omega)
      rw [invArr_nil] at hmk
      clear hl hC hb
      go_enter Try.func13, Try.ntmps13
      go_wp2_with fail
      refine hP.mono ?_
      rintro e w1 ⟨rfl, hB1⟩
      clear hP
      have hbx := Box.new w1 (invArr m []) 3
      have hal : Below w1.heap.size w1 (w1.alloc (.cells (invArr m []) 3)) := (Below.refl _ _).alloc (Nat.le_refl _) _
      go_wp2_with fail
      go_loopw [21] (fun i wr => ∃ k : Nat, i = .int .i64 k ∧ k ≤ m ∧ Box wr w1.heap.size (invArr m (p.take k)) 3 ∧ Below w1.heap.size w1 wr) (fun i _ => m - (intOf i).toNat)
      case atStart => exact ⟨0, rfl, by omega, by simpa using hbx, hal⟩
      case round =>
        clear hbx hal hmk
        obtain ⟨k, rfl, hk, hbx, hB⟩ := hrel
        by_cases hlt : k < m
        · obtain ⟨b0, o0, rfl, hb0⟩ := h0.at' (by omega)
          obtain ⟨x, hx⟩ := h0.has hlt
          have e0 := (h0.below (hB1.on hB)).get hx
          obtain ⟨hx0, hx1⟩ := HA.out.rng x (List.mem_of_getElem? hx)
          obtain ⟨X, rfl⟩ : ∃ X : Nat, x = (X : Int) := ⟨x.toNat, by omega⟩
          have hnot : (X : Int) ∉ p.take k := by
            intro hm
            obtain ⟨j, hj, e2⟩ := List.mem_take_iff_getElem.1 hm
            have hj' := Nat.lt_min.1 hj
            have := nodup_get HA.out.nd (i := j) (j := k) (by rw [List.getElem?_eq_getElem (by omega), e2]) hx
            omega
          have s0 : (0 : Int) ≤ (k : Int) := by omega
          have s1 : (k : Int) < (m : Int) := by omega
          have s2 : (0 : Int) ≤ (X : Int) := by omega
          have s3 : (X : Int) < (m : Int) := by omega
          have gf := hbx.frozen X
          obtain ⟨v0, hv0⟩ : ∃ v, wr.cell? ⟨w1.heap.size, X, none⟩ = some v := ⟨_, (hbx.cell X).trans (invArr_get _ _ (by omega))⟩
          have hset := hbx.set X (.int .i64 k)
          rw [invArr_set m (by rw [List.length_take, HLEN.out]; omega) hnot (by omega)] at hset
          have HSET : Hid (Box (wr.setCell ⟨w1.heap.size, X, none⟩ (.int .i64 k)) w1.heap.size (invArr m (p.take (k + 1))) 3) := Lib.hid (by
            rw [List.take_add_one, hx]; exact hset)
          have hB2 : Below w1.heap.size w1 (wr.setCell ⟨w1.heap.size, X, none⟩ (.int .i64 k)) := hB.setCell (Nat.le_refl _) _
          clear hset hbx hx hx0 hx1 hnot
          go_wp2_with fail
          go_roundw
          case rel => exact ⟨k + 1, by go_num, by omega, HSET.out, hB2⟩
          case measure => simp [intOf]; omega
        · obtain rfl : m = k := by omega
          rw [List.take_of_length_le (by rw [HLEN.out]; omega)] at hbx
          have HO := Lib.hid (own_of_box (base := W.heap.size) (n := m) hbx (by simp [invP, mkP_len]) (invArr_full HA.out) hB1.size (by omega))
          clear hbx
          go_wp2_with fail
          (refine bodyPost_ret (v := .tuple #[.slice (some ⟨w1.heap.size, 0, none⟩) m m, .int .i64 0]) (by simp [results, Try.results13, go_sem]) rfl ?_)
          exact ⟨_, by rw [HL.out.2], by rw [HL.out.1]; exact HO.out, hB1.on hB⟩
  · have c1 : (256 : Int) < (m : Int) := by omega
    have HL : Hid (invLL p = [] ∧ invE p = 110) := Lib.hid (by unfold invLL invE invB; rw [hl, decide_eq_false h2]; exact ⟨rfl, rfl⟩)
    clear hl h2
    go_enter Try.func13, Try.ntmps13
    go_wp2_with fail
    (refine bodyPost_ret (v := .tuple #[.slice none 0 0, .int .i64 110]) (by simp [results, Try.results13, go_sem]) rfl ?_)
    exact ⟨_, by rw [HL.out.2], by rw [HL.out.1]; exact OwnInts.nil _ _ _, Below.refl _ _⟩
set_option maxHeartbeats 4000000 in
theorem rinverse_any (a0 : Option Addr) (m c : Nat) (p : List Int) (W : World) (h0 : Ints W a0 m c p) :
    Calls Try.prog 14 #[.slice a0 m c] W (RetOwnE W 3 (invLL p) (invE p)) := by
  have hl := h0.len
  by_cases h2 : m ≤ 256
  · have c1 : ¬ (256 : Int) < (m : Int) := by omega
    have hC : invB p = permB p m := by unfold invB; rw [hl, decide_eq_true h2, Bool.true_and]
    have hP := is_any a0 m c p m W h0 (by omega)
    cases hb : permB p m
    · rw [hb] at hP hC
      have HL : Hid (invLL p = [] ∧ invE p = 110) := Lib.hid (by unfold invLL invE; rw [hC]; exact ⟨rfl, rfl⟩)
      clear hl hC hb
      go_enter Try.func14, Try.ntmps14
      go_wp2_with fail
      refine hP.mono ?_
      rintro e w1 ⟨rfl, hB⟩
      clear hP
      go_wp2_with fail
      (refine bodyPost_ret (v := .tuple #[.slice none 0 0, .int .i64 110]) (by simp [results, Try.results14, go_sem]) rfl ?_)
      exact ⟨_, by rw [HL.out.2], by rw [HL.out.1]; exact OwnInts.nil _ _ _, hB⟩
    · have HA := Lib.hid (permB_iff.1 hb)
      rw [hb] at hP hC
      have HL : Hid (invLL p = invP p m ∧ invE p = 0) := Lib.hid (by unfold invLL invE; rw [hC, hl]; exact ⟨rfl, rfl⟩)
      have HLEN := Lib.hid hl
      have hmk := make_intsP m (by omega)
      rw [invArr_nil] at hmk
      clear hl hC hb
      go_enter Try.func14, Try.ntmps14
      go_wp2_with fail
      refine hP.mono ?_
      rintro e w1 ⟨rfl, hB1⟩
      clear hP
      have hbx := Box.new w1 (invArr m []) 3
      have hal : Below w1.heap.size w1 (w1.alloc (.cells (invArr m []) 3)) := (Below.refl _ _).alloc (Nat.le_refl _) _
      go_wp2_with fail
      go_loopw [5] (fun i wr => ∃ k : Nat, i = .int .i64 k ∧ k ≤ m ∧ Box wr w1.heap.size (invArr m (p.take k)) 3 ∧ Below w1.heap.size w1 wr) (fun i _ => m - (intOf i).toNat)
      case atStart => exact ⟨0, rfl, by omega, by simpa using hbx, hal⟩
      case round =>
        clear hbx hal hmk
        obtain ⟨k, rfl, hk, hbx, hB⟩ := hrel
        by_cases hlt : k < m
        · obtain ⟨b0, o0, rfl, hb0⟩ := h0.at' (by omega)
          obtain ⟨x, hx⟩ := h0.has hlt
          have e0 := (h0.below (hB1.on hB)).get hx
          obtain ⟨hx0, hx1⟩ := HA.out.rng x (List.mem_of_getElem? hx)
          obtain ⟨X, rfl⟩ : ∃ X : Nat, x = (X : Int) := ⟨x.toNat, by omega⟩
          have hnot : (X : Int) ∉ p.take k := by
            intro hm
            obtain ⟨j, hj, e2⟩ := List.mem_take_iff_getElem.1 hm
            have hj' := Nat.lt_min.1 hj
            have := nodup_get HA.out.nd (i := j) (j := k) (by rw [List.getElem?_eq_getElem (by omega), e2]) hx
            omega
          have s0 : (0 : Int) ≤ (k : Int) := by omega
          have s1 : (k : Int) < (m : Int) := by omega
          have s2 : (0 : Int) ≤ (X : Int) := by omega
          have s3 : (X : Int) < (m : Int) := by omega
          have gf := hbx.frozen X
          obtain ⟨v0, hv0⟩ : ∃ v, wr.cell? ⟨w1.heap.size, X, none⟩ = some v := ⟨_, (hbx.cell X).trans (invArr_get _ _ (by omega))⟩
          have hset := hbx.set X (.int .i64 k)
          rw [invArr_set m (by rw [List.length_take, HLEN.out]; omega) hnot (by omega)] at hset
          have HSET : Hid (Box (wr.setCell ⟨w1.heap.size, X, none⟩ (.int .i64 k)) w1.heap.size (invArr m (p.take (k + 1))) 3) := Lib.hid (by
            rw [List.take_add_one, hx]; exact hset)
          have hB2 : Below w1.heap.size w1 (wr.setCell ⟨w1.heap.size, X, none⟩ (.int .i64 k)) := hB.setCell (Nat.le_refl _) _
          clear hset hbx hx hx0 hx1 hnot
          go_wp2_with fail
          go_roundw
          case rel => exact ⟨k + 1, by go_num, by omega, HSET.out, hB2⟩
          case measure => simp [intOf]; omega
        · obtain rfl : m = k := by omega
          rw [List.take_of_length_le (by rw [HLEN.out]; omega)] at hbx
          have HO := Lib.hid (own_of_box (base := W.heap.size) (n := m) hbx (by simp [invP, mkP_len]) (invArr_full HA.out) hB1.size (by omega))
          clear hbx
          go_wp2_with fail
          (refine bodyPost_ret (v := .tuple #[.slice (some ⟨w1.heap.size, 0, none⟩) m m, .int .i64 0]) (by simp [results, Try.results14, go_sem]) rfl ?_)
          exact ⟨_, by rw [HL.out.2], by rw [HL.out.1]; exact HO.out, hB1.on hB⟩
  · have c1 : (256 : Int) < (m : Int) := by omega
    have HL : Hid (invLL p = [] ∧ invE p = 110) := Lib.hid (by unfold invLL invE invB; rw [hl, decide_eq_false h2]; exact ⟨rfl, rfl⟩)
    clear hl h2
    go_enter Try.func14, Try.ntmps14
    go_wp2_with fail
    (refine bodyPost_ret (v := .tuple #[.slice none 0 0, .int .i64 110]) (by simp [results, Try.results14, go_sem]) rfl ?_)
    exact ⟨_, by rw [HL.out.2], by rw [HL.out.1]; exact OwnInts.nil _ _ _, Below.refl _ _⟩

theorem idP_snoc (k : Nat) : idP (k + 1) = idP k ++ [(k : Int)] := by unfold idP mkP; rw [List.range_succ, List.map_append]; rfl
set_option maxHeartbeats 4000000 in
theorem ident_any (n : Nat) (W : World) (hn : n ≤ 1000000) : Calls Try.prog 25 #[.int .i64 n] W (RetOwn W 3 (idP n)) := by
  have hm0 := OwnInts.made0 W 3 W.heap.size (Nat.le_refl _)
  have hal : Below W.heap.size W (W.alloc (.cells #[] 3)) := (Below.refl _ _).alloc (Nat.le_refl _) _
  obtain ⟨i3, hi3, hz30, hz31, hz32⟩ := info_parts info_int
  go_enter Try.func25, Try.ntmps25
  go_wp2_with fail
  go_loopw [3, 4] (fun v i wr => ∃ k : Nat, i = .int .i64 k ∧ k ≤ n ∧ OwnInts wr W.heap.size 3 v (idP k) ∧ Below W.heap.size W wr) (fun _ i _ => n - (intOf i).toNat)
  case atStart => exact ⟨0, rfl, by omega, hm0, hal⟩
  case round =>
    clear hm0 hal
    obtain ⟨k, rfl, hk, hO, hB⟩ := hrel
    by_cases hlt : k < n
    · have hll : (idP k).length = k := mkP_len
      have HT := Lib.hid (idP_snoc k)
      have hol := hO.lt
      have hsz := hB.size
      obtain ⟨L, hLe⟩ : ∃ L, idP k = L := ⟨_, rfl⟩
      rw [hLe] at hO hll HT
      unfold OwnInts at hO
      rw [hll] at hO
      clear hLe
      obtain ⟨av, cv, rfl, _, _⟩ := own_slice hO
      go_wp2_with (at_builtin; refine wpList_append_own2 _ rfl _ _ 22 rfl W.heap.size 3 i3 (.int .i64 0) 1 8 Try.underlying22 hi3 hz30 hz31 hz32 rfl (by decide) _ _ _ (hO.alloc _) rfl ⟨_, 0, none⟩ 1 1 [.int .i64 k] rfl rfl (cell_one_new _ _ _) (by simp [Value.oneCell']) (by unfold maxLen; omega) (by omega) (by first | omega | (simp; omega)) ?_; intro v' w1 hown' hgrow hfr)
      go_roundw
      case rel =>
        refine ⟨k + 1, by go_num, by omega, ?_, (hB.alloc hsz _).grown hgrow (by simp; omega) (fun q e => (hol q e).1)⟩
        rw [HT.out]
        exact OwnInts.snoc (by rw [hll]; exact hown')
      case measure => simp [intOf]; omega
    · obtain rfl : n = k := by omega
      have HO := Lib.hid hO
      clear hO
      go_wp2_with fail
      go_ret
      exact ⟨_, rfl, HO.out, hB⟩
end Go.Proofs.Ytkekkbbdhdamjaa
