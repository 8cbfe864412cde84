/- Contract of law11.closed at a closure. -/
import Derived.Test.YtkekkbbdhdamjaaLagM
import Derived.Test.YtkekkbbdhdamjaaLawP
import Derived.Deep.RegionHeld3
import Derived.WalkKit
import Derived.WalkSpells
import Derived.WalkLawsBesides
import Derived.Deep.LoopGhost
import Derived.Deep.QuietTactic
import Derived.BigQuiet
import Derived.StillTailTactics
import Derived.Lib.Hide
import Derived.Outline
import Derived.Lib.QuietBelow
namespace Go.Proofs.Ytkekkbbdhdamjaa
open Go.RowKit

theorem find_true (a0 a1 : Option Addr) (m c n d : Nat) (l : List (List Int)) (p : List Int) (W : World) (h0 : Rows W a0 m c l) (h1 : Ints W a1 n d p) (hm : m ≤ 1000000) (hl : Inc l) (hp : p ∈ l) :
    Calls Try.prog 27 #[.slice a0 m c, .slice a1 n d] W fun e w' => ∃ k : Nat, e = .returned (.tuple #[.int .i64 k, .bool true]) ∧ Below W.heap.size W w' := by
  refine (find_any a0 a1 m c n d l p W h0 h1 hm hl).mono ?_
  rintro e w' ⟨k, q, rfl, _, _, rfl⟩
  exact ⟨k, by rw [decide_eq_true hp], Below.drewN0 _ _⟩
theorem is_true (a : Option Addr) (m c : Nat) (p : List Int) (n : Nat) (W : World) (hI : Ints W a m c p) (hn : n ≤ 256) (hp : okPerm p n) :
    Calls Try.prog 24 #[.slice a m c, .int .i64 n] W fun e w' => e = .returned (.bool true) ∧ Below W.heap.size W w' := by
  refine (is_any a m c p n W hI hn).mono ?_
  rintro e w' ⟨rfl, hb⟩
  exact ⟨by rw [permB_iff.2 hp], hb⟩

theorem is_trueW {a : Option Addr} {m c : Nat} {p : List Int} {n : Nat} {w0 : World} (hI : Ints w0 a m c p) (hn : n ≤ 256) (hp : okPerm p n) (W : World) (hW : Below w0.heap.size w0 W) :
    Calls Try.prog 24 #[.slice a m c, .int .i64 n] W fun e w' => e = .returned (.bool true) ∧ Below W.heap.size W w' ∧ Below w0.heap.size w0 w' :=
  (is_true a m c p n W (hI.below hW) hn hp).mono fun _e _w' h => ⟨h.1, h.2, hW.on h.2⟩
theorem order_less {a0 a1 : Option Addr} {m c n d : Nat} {a b : List Int} {w0 : World} (h0 : Ints w0 a0 m c a) (h1 : Ints w0 a1 n d b) (ho : ordL a b = -1) (W : World) (hW : Below w0.heap.size w0 W) :
    Calls Try.prog 31 #[.slice a0 m c, .slice a1 n d] W fun e w' => e = .returned (.int .i64 (-1)) ∧ Below W.heap.size W w' ∧ Below w0.heap.size w0 w' := by
  refine (order_any a0 a1 m c n d a b W (h0.below hW) (h1.below hW)).mono ?_
  rintro e w' ⟨rfl, z, rfl⟩
  exact ⟨by rw [ho], Below.drewN0 _ _, hW.on (Below.drewN0 _ _)⟩
theorem keepC1 {w0 w w' : World} {b o : Nat} {v : Value} (h : w.cell? ⟨b, o, none⟩ = some v ∧ Below w0.heap.size w0 w) (hb : Below w.heap.size w w') : w'.cell? ⟨b, o, none⟩ = some v ∧ Below w0.heap.size w0 w' :=
  ⟨(hb.cell (p := ⟨b, o, none⟩) (World.block_lt_of_cell? w _ h.1)).trans h.1, h.2.on hb⟩

set_option maxRecDepth 20000 in
set_option maxHeartbeats 4000000 in
theorem closed_any (N : Nat) (a1 a2 : Option Addr) (m1 c1 m2 c2 : Nat) (gens L : List (List Int)) (W : World) (h1 : Rows W a1 m1 c1 gens) (h2 : Rows W a2 m2 c2 L) (hN : N ≤ 256) (hg : ∀ g ∈ gens, okPerm g N) (hL : CloL N gens L) (hI : Inc L) :
    Calls Try.prog 26 #[.int .i64 N, .slice a1 m1 c1, .slice a2 m2 c2] W fun e w' => e = .returned (.bool true) ∧ Below W.heap.size W w' := by
  have HG := Lib.hid hg
  have HL := Lib.hid hL
  have HI := Lib.hid hI
  have HL1 := Lib.hid h1.len
  have HL2 := Lib.hid h2.len
  have hm2 : m2 ≤ 4096 := by rw [← h2.len]; exact hL.le
  have hmx := h1.mx
  have hcp := h1.cap
  unfold maxLen at hmx
  clear hg hL hI
  go_enter Try.func26, Try.ntmps26
  go_wp2_with fail
  go_loopw [20] (fun i wr => ∃ k : Nat, i = .int .i64 k ∧ k ≤ m2 ∧ Below W.heap.size W wr) (fun i _ => m2 - (intOf i).toNat)
  case atStart => exact ⟨0, rfl, by omega, Below.refl _ _⟩
  case round =>
    obtain ⟨k, rfl, hk, hB⟩ := hrel
    by_cases hlt : k < m2
    · obtain ⟨p, hp⟩ := h2.has hlt
      obtain ⟨b, o, rfl, hb⟩ := h2.at' (by omega)
      obtain ⟨pa, pn, pc, ep, hIp⟩ := (h2.below hB).get hp
      have HPO : Hid (okPerm p N) := Lib.hid (HL.out.ok HG.out p (List.mem_of_getElem? hp))
      have HP := Lib.hid hp
      have s0 : (0 : Int) ≤ (k : Int) := by omega
      have s1 : (k : Int) < (m2 : Int) := by omega
      clear hp
      by_cases hk0 : k = 0
      · subst hk0
        have HB := Lib.hid (is_trueW hIp hN HPO.out)
        rw [Nat.add_zero] at ep
        have ep0 := ep
        clear hIp
        go_wp2_with fail
        refine wp_region_held_drew (S := fun w' => w'.cell? ⟨b, o, none⟩ = some (.slice pa pn pc) ∧ Below wr.heap.size wr w') (by kernel_rfl) ⟨ep0, (Below.refl _ _).drew⟩ (fun hS => ?_)
        refine wpAnyH_take (i := 0) (v := ?_) rfl (by kernel_rfl) (by kernel_rfl) (by kernel_rfl) (fun _ _ _ h => h) (Or.inl ⟨by rfl, ?_⟩) (by assumption) ?_
        rotate_left
        focus
          intro w hSw
          (try dsimp only at hSw)
          (try go_split_ands)
          go_simp
          try with_reducible rfl
        try simp only [Act.put, List.getElem_toArray, List.getElem_cons_zero, List.setIfInBounds_toArray, List.set_cons_zero, List.set_cons_succ]
        refine wpAnyH_take (i := 1) (v := ?_) rfl (by kernel_rfl) (by kernel_rfl) (by kernel_rfl) (fun _ _ _ h => h) (Or.inl ⟨by rfl, ?_⟩) (by assumption) ?_
        rotate_left
        focus
          intro w hSw
          (try dsimp only at hSw)
          (try go_split_ands)
          go_simp
          try with_reducible rfl
        try simp only [Act.put, List.getElem_toArray, List.getElem_cons_succ, List.getElem_cons_zero, List.setIfInBounds_toArray, List.set_cons_zero, List.set_cons_succ]
        refine wpAnyH_take (i := 2) (v := ?_) rfl (by kernel_rfl) (by kernel_rfl) (by kernel_rfl) (fun _ _ _ h => h) (Or.inl ⟨by rfl, ?_⟩) (by assumption) ?_
        rotate_left
        focus
          intro w hSw
          (try dsimp only at hSw)
          (try go_split_ands)
          go_simp
          try with_reducible rfl
        try simp only [Act.put, List.getElem_toArray, List.getElem_cons_succ, List.getElem_cons_zero, List.setIfInBounds_toArray, List.set_cons_zero, List.set_cons_succ]
        refine wpAnyH_take (i := 3) (v := ?_) rfl (by kernel_rfl) (by kernel_rfl) (by kernel_rfl) (fun _ _ _ h => h) (Or.inl ⟨by rfl, ?_⟩) (by assumption) ?_
        rotate_left
        focus
          intro w hSw
          (try dsimp only at hSw)
          (try go_split_ands)
          go_simp
          try with_reducible rfl
        try simp only [Act.put, List.getElem_toArray, List.getElem_cons_succ, List.getElem_cons_zero, List.setIfInBounds_toArray, List.set_cons_zero, List.set_cons_succ]
        refine wpAnyH_take (i := 4) (v := ?_) rfl (by kernel_rfl) (by kernel_rfl) (by kernel_rfl) (fun _ _ _ h => h) (Or.inl ⟨by rfl, ?_⟩) (by assumption) ?_
        rotate_left
        focus
          intro w hSw
          (try dsimp only at hSw)
          (try go_split_ands)
          go_simp
          try with_reducible rfl
        try simp only [Act.put, List.getElem_toArray, List.getElem_cons_succ, List.getElem_cons_zero, List.setIfInBounds_toArray, List.set_cons_zero, List.set_cons_succ]
        refine wpAnyH_ready (rs := [5]) (by kernel_rfl) (by simp) (AllReadyH.cons rfl (fun K hK => ?_) AllReadyH.nil)
        go_simp
        go_at_call 24
        ((with_reducible refine (HB.out _ (by first | assumption | (go_split_ands; assumption))).mono ?_); rintro e wz ⟨rfl, hb', hZ⟩)
        refine hK.out _ _ (keepC1 hS hb') (fun hS => ?_)
        clear hK K hb'
        try simp only [Act.put, List.getElem_toArray, List.getElem_cons_succ, List.getElem_cons_zero, List.setIfInBounds_toArray, List.set_cons_zero, List.set_cons_succ]
        refine wpAnyH_take (i := 6) (v := ?_) rfl (by kernel_rfl) (by kernel_rfl) (by kernel_rfl) (fun _ _ _ h => h) (Or.inl ⟨by rfl, ?_⟩) (by assumption) ?_
        rotate_left
        focus
          intro w hSw
          (try dsimp only at hSw)
          (try go_split_ands)
          go_simp
          try with_reducible rfl
        try simp only [Act.put, List.getElem_toArray, List.getElem_cons_succ, List.getElem_cons_zero, List.setIfInBounds_toArray, List.set_cons_zero, List.set_cons_succ]
        refine wpAnyH_take (i := 7) (v := ?_) rfl (by kernel_rfl) (by kernel_rfl) (by kernel_rfl) (fun _ _ _ h => h) (Or.inl ⟨by rfl, ?_⟩) (by assumption) ?_
        rotate_left
        focus
          intro w hSw
          (try dsimp only at hSw)
          (try go_split_ands)
          go_simp
          try with_reducible rfl
        try simp only [Act.put, List.getElem_toArray, List.getElem_cons_succ, List.getElem_cons_zero, List.setIfInBounds_toArray, List.set_cons_zero, List.set_cons_succ]
        refine wpAnyH_take (i := 8) (v := ?_) rfl (by kernel_rfl) (by kernel_rfl) (by kernel_rfl) (fun _ _ _ h => h) (Or.inl ⟨by rfl, ?_⟩) (by assumption) ?_
        rotate_left
        focus
          intro w hSw
          (try dsimp only at hSw)
          (try go_split_ands)
          go_simp
          try with_reducible rfl
        try simp only [Act.put, List.getElem_toArray, List.getElem_cons_succ, List.getElem_cons_zero, List.setIfInBounds_toArray, List.set_cons_zero, List.set_cons_succ]
        refine wpAnyH_take (i := 9) (v := ?_) rfl (by kernel_rfl) (by kernel_rfl) (by kernel_rfl) (fun _ _ _ h => h) (Or.inl ⟨by rfl, ?_⟩) (by assumption) ?_
        rotate_left
        focus
          intro w hSw
          (try dsimp only at hSw)
          (try go_split_ands)
          go_simp
          try with_reducible rfl
        try simp only [Act.put, List.getElem_toArray, List.getElem_cons_succ, List.getElem_cons_zero, List.setIfInBounds_toArray, List.set_cons_zero, List.set_cons_succ]
        refine wpAnyH_take (i := 10) (v := ?_) rfl (by kernel_rfl) (by kernel_rfl) (by kernel_rfl) (fun _ _ _ h => h) (Or.inl ⟨by rfl, ?_⟩) (by assumption) ?_
        rotate_left
        focus
          intro w hSw
          (try dsimp only at hSw)
          (try go_split_ands)
          go_simp
          try with_reducible rfl
        try simp only [Act.put, List.getElem_toArray, List.getElem_cons_succ, List.getElem_cons_zero, List.setIfInBounds_toArray, List.set_cons_zero, List.set_cons_succ]
        refine wpAnyH_take (i := 11) (v := undef) rfl (by kernel_rfl) (by kernel_rfl) (by kernel_rfl) (fun _ _ _ h => h) (Or.inr ⟨by rfl, rfl⟩) (by assumption) ?_
        try simp only [Act.put, List.getElem_toArray, List.getElem_cons_succ, List.getElem_cons_zero, List.setIfInBounds_toArray, List.set_cons_zero, List.set_cons_succ]
        refine wpAnyH_take (i := 12) (v := undef) rfl (by kernel_rfl) (by kernel_rfl) (by kernel_rfl) (fun _ _ _ h => h) (Or.inr ⟨by rfl, rfl⟩) (by assumption) ?_
        try simp only [Act.put, List.getElem_toArray, List.getElem_cons_succ, List.getElem_cons_zero, List.setIfInBounds_toArray, List.set_cons_zero, List.set_cons_succ]
        refine wpAnyH_take (i := 13) (v := undef) rfl (by kernel_rfl) (by kernel_rfl) (by kernel_rfl) (fun _ _ _ h => h) (Or.inr ⟨by rfl, rfl⟩) (by assumption) ?_
        try simp only [Act.put, List.getElem_toArray, List.getElem_cons_succ, List.getElem_cons_zero, List.setIfInBounds_toArray, List.set_cons_zero, List.set_cons_succ]
        refine wpAnyH_take (i := 14) (v := undef) rfl (by kernel_rfl) (by kernel_rfl) (by kernel_rfl) (fun _ _ _ h => h) (Or.inr ⟨by rfl, rfl⟩) (by assumption) ?_
        try simp only [Act.put, List.getElem_toArray, List.getElem_cons_succ, List.getElem_cons_zero, List.setIfInBounds_toArray, List.set_cons_zero, List.set_cons_succ]
        refine wpAnyH_take (i := 15) (v := undef) rfl (by kernel_rfl) (by kernel_rfl) (by kernel_rfl) (fun _ _ _ h => h) (Or.inr ⟨by rfl, rfl⟩) (by assumption) ?_
        try simp only [Act.put, List.getElem_toArray, List.getElem_cons_succ, List.getElem_cons_zero, List.setIfInBounds_toArray, List.set_cons_zero, List.set_cons_succ]
        refine wpAnyH_take (i := 16) (v := undef) rfl (by kernel_rfl) (by kernel_rfl) (by kernel_rfl) (fun _ _ _ h => h) (Or.inr ⟨by rfl, rfl⟩) (by assumption) ?_
        try simp only [Act.put, List.getElem_toArray, List.getElem_cons_succ, List.getElem_cons_zero, List.setIfInBounds_toArray, List.set_cons_zero, List.set_cons_succ]
        refine wpAnyH_take (i := 17) (v := undef) rfl (by kernel_rfl) (by kernel_rfl) (by kernel_rfl) (fun _ _ _ h => h) (Or.inr ⟨by rfl, rfl⟩) (by assumption) ?_
        try simp only [Act.put, List.getElem_toArray, List.getElem_cons_succ, List.getElem_cons_zero, List.setIfInBounds_toArray, List.set_cons_zero, List.set_cons_succ]
        refine wpAnyH_take (i := 18) (v := undef) rfl (by kernel_rfl) (by kernel_rfl) (by kernel_rfl) (fun _ _ _ h => h) (Or.inr ⟨by rfl, rfl⟩) (by assumption) ?_
        try simp only [Act.put, List.getElem_toArray, List.getElem_cons_succ, List.getElem_cons_zero, List.setIfInBounds_toArray, List.set_cons_zero, List.set_cons_succ]
        refine wpAnyH_take (i := 19) (v := undef) rfl (by kernel_rfl) (by kernel_rfl) (by kernel_rfl) (fun _ _ _ h => h) (Or.inr ⟨by rfl, rfl⟩) (by assumption) ?_
        try simp only [Act.put, List.getElem_toArray, List.getElem_cons_succ, List.getElem_cons_zero, List.setIfInBounds_toArray, List.set_cons_zero, List.set_cons_succ]
        refine wpAnyH_take (i := 20) (v := undef) rfl (by kernel_rfl) (by kernel_rfl) (by kernel_rfl) (fun _ _ _ h => h) (Or.inr ⟨by rfl, rfl⟩) (by assumption) ?_
        try simp only [Act.put, List.getElem_toArray, List.getElem_cons_succ, List.getElem_cons_zero, List.setIfInBounds_toArray, List.set_cons_zero, List.set_cons_succ]
        refine wpAnyH_take (i := 21) (v := undef) rfl (by kernel_rfl) (by kernel_rfl) (by kernel_rfl) (fun _ _ _ h => h) (Or.inr ⟨by rfl, rfl⟩) (by assumption) ?_
        try simp only [Act.put, List.getElem_toArray, List.getElem_cons_succ, List.getElem_cons_zero, List.setIfInBounds_toArray, List.set_cons_zero, List.set_cons_succ]
        refine wpAnyH_take (i := 22) (v := ?_) rfl (by kernel_rfl) (by kernel_rfl) (by kernel_rfl) (fun _ _ _ h => h) (Or.inl ⟨by rfl, ?_⟩) (by assumption) ?_
        rotate_left
        focus
          intro w hSw
          (try dsimp only at hSw)
          (try go_split_ands)
          go_simp
          try with_reducible rfl
        try simp only [Act.put, List.getElem_toArray, List.getElem_cons_succ, List.getElem_cons_zero, List.setIfInBounds_toArray, List.set_cons_zero, List.set_cons_succ]
        refine wpAnyH_take (i := 23) (v := ?_) rfl (by kernel_rfl) (by kernel_rfl) (by kernel_rfl) (fun _ _ _ h => h) (Or.inl ⟨by rfl, ?_⟩) (by assumption) ?_
        rotate_left
        focus
          intro w hSw
          (try dsimp only at hSw)
          (try go_split_ands)
          go_simp
          try with_reducible rfl
        try simp only [Act.put, List.getElem_toArray, List.getElem_cons_succ, List.getElem_cons_zero, List.setIfInBounds_toArray, List.set_cons_zero, List.set_cons_succ]
        refine wpAnyH_done (by kernel_rfl) ?_ _
        replace hB := hB.on hZ
        clear hS ep
        go_wp2_with fail
        go_roundw
        case rel => exact ⟨1, by go_num, by omega, hB⟩
        case measure => simp [intOf]; omega
      · obtain ⟨q, hq⟩ := h2.has (i := k - 1) (by omega)
        obtain ⟨qa, qn, qc, eq, hIq⟩ := (h2.below hB).get hq
        have HO : Hid (ordL q p = -1) := Lib.hid (by
          have hh := List.pairwise_iff_getElem.1 HI.out (k - 1) k (by rw [HL2.out]; omega) (by rw [HL2.out]; omega) (by omega)
          obtain ⟨_, e1⟩ := List.getElem?_eq_some_iff.1 hq
          obtain ⟨_, e2⟩ := List.getElem?_eq_some_iff.1 HP.out
          rw [e1, e2] at hh
          have h3 : ordL q p < 0 := of_decide_eq_true hh
          rcases ordL_cases q p with h | h | h <;> omega)
        have n0 : 0 < k := by omega
        have n1 : decide (0 < k) = true := decide_eq_true n0
        have hw1 : IntKind.i64.wrap ((k : Int) - 1) = (k : Int) - 1 := by rw [IntKind.wrap_i64]; omega
        have u8 : (1 : Int) ≤ (k : Int) := by omega
        have u9 : (k : Int) ≤ (m2 : Int) := by omega
        have u0 : (0 : Int) ≤ (k : Int) - 1 := by omega
        have u1 : (k : Int) - 1 < (m2 : Int) := by omega
        have u2 : ((k : Int) - 1).toNat = k - 1 := by omega
        clear hq hk0
        have HB := Lib.hid (is_trueW hIp hN HPO.out)
        have HC := Lib.hid (order_less hIq hIp HO.out)
        have ep0 := ep
        have eq0 := eq
        clear hIp hIq
        go_wp2_with fail
        go_region_held3 (fun w' => w'.cell? ⟨b, o + k, none⟩ = some (.slice pa pn pc) ∧ w'.cell? ⟨b, o + (k - 1), none⟩ = some (.slice qa qn qc) ∧ Below wr.heap.size wr w')
          (first | exact ⟨ep0, eq0, (Below.refl _ _).drew⟩ | exact keepS (by assumption) (by assumption))
          (first | (go_at_call 24; refine (HB.out _ (by first | assumption | (go_split_ands; assumption))).mono ?_; rintro e w' ⟨rfl, hA, hZ⟩) | (go_at_call 31; refine (HC.out _ (by first | assumption | (go_split_ands; assumption))).mono ?_; rintro e w' ⟨rfl, hA, hZ⟩))
        have hBw : Below wr.heap.size wr w' := hZ
        replace hB := hB.on hBw
        clear ep eq
        go_wp2_with fail
        go_roundw
        case rel => exact ⟨k + 1, by go_num, by omega, hB⟩
        case measure => simp [intOf]; omega
    · obtain rfl : m2 = k := by omega
      go_wp2_with fail
      have hIdN : (idP N).length = N := mkP_len
      refine (ident_any N wr (by omega)).mono ?_
      rintro e w2 ⟨v, rfl, hOI, hA⟩
      obtain ⟨ia, ic, rfl, hIi⟩ := hOI.ints
      rw [hIdN] at hIi ⊢
      replace hB := hB.on hA
      clear hOI hA hIdN
      go_wp2_with fail
      refine (find_true a2 ia m2 c2 N ic L (idP N) w2 (h2.below hB) hIi (by omega) HI.out HL.out.id).mono ?_
      rintro e w3 ⟨z, rfl, hA⟩
      replace hB := hB.on hA
      clear hIi hA
      go_wp2_with fail
      go_loopw [9, 57] (fun f i wr => ∃ k : Nat, f = .bool true ∧ i = .int .i64 k ∧ k ≤ m1 ∧ Below W.heap.size W wr) (fun _ i _ => m1 - (intOf i).toNat)
      case atStart => exact ⟨0, rfl, rfl, by omega, hB⟩
      case round =>
        clear hB
        obtain ⟨k, rfl, rfl, hk, hB⟩ := hrel
        by_cases hlt : k < m1
        · obtain ⟨g, hgk⟩ := h1.has hlt
          obtain ⟨gb, go, rfl, hgb⟩ := h1.at' (by omega)
          obtain ⟨ga, gn, gc, eg, hIg⟩ := (h1.below hB).get hgk
          have HGO : Hid (okPerm g N ∧ g ∈ L ∧ g ∈ gens) := Lib.hid ⟨HG.out g (List.mem_of_getElem? hgk), (HL.out.mem g).2 (.gen HG.out (List.mem_of_getElem? hgk)), List.mem_of_getElem? hgk⟩
          have hgn : gn = N := by rw [← hIg.len, HGO.out.1.len]
          obtain rfl : N = gn := hgn.symm
          clear hgn hgk hgb
          have s0 : (0 : Int) ≤ (k : Int) := by omega
          have s1 : (k : Int) < (m1 : Int) := by omega
          go_wp2_with fail
          refine (is_true ga N gc g N wr hIg hN HGO.out.1).mono ?_
          rintro e w2 ⟨rfl, hA⟩
          replace hB := hB.on hA
          replace hIg := hIg.below hA
          clear hA eg
          go_wp2_with fail
          refine (find_true a2 ga m2 c2 N gc L g w2 (h2.below hB) hIg (by omega) HI.out HGO.out.2.1).mono ?_
          rintro e w3 ⟨z2, rfl, hA⟩
          replace hB := hB.on hA
          replace hIg := hIg.below hA
          clear hA
          go_wp2_with fail
          obtain ⟨wo, hwo⟩ : ∃ wo, wo = w3 := ⟨_, rfl⟩
          rw [← hwo] at hIg hB ⊢
          clear hwo
          go_loopw [9, 77] (fun f i wr => ∃ j : Nat, f = .bool true ∧ i = .int .i64 j ∧ j ≤ m2 ∧ Below wo.heap.size wo wr) (fun _ i _ => m2 - (intOf i).toNat)
          case atStart => exact ⟨0, rfl, rfl, by omega, Below.refl _ _⟩
          case round =>
            obtain ⟨j, rfl, rfl, hj, hBo⟩ := hrel
            by_cases hltj : j < m2
            · obtain ⟨p, hp⟩ := h2.has hltj
              obtain ⟨b, o, rfl, hb⟩ := h2.at' (by omega)
              obtain ⟨pa, pn, pc, ep, hIp⟩ := (h2.below (hB.on hBo)).get hp
              have HPO : Hid (okPerm p N ∧ prodL g p ∈ L) := Lib.hid ⟨HL.out.ok HG.out p (List.mem_of_getElem? hp), HL.out.mul HG.out _ HGO.out.2.1 _ (List.mem_of_getElem? hp)⟩
              have hpn : pn = N := by rw [← hIp.len, HPO.out.1.len]
              obtain rfl : N = pn := hpn.symm
              clear hpn hp hb
              have s2 : (0 : Int) ≤ (j : Int) := by omega
              have s3 : (j : Int) < (m2 : Int) := by omega
              go_wp2_with fail
              refine (product_any ga pa N gc N pc g p wr (hIg.below hBo) hIp HPO.out.1.rng (by omega)).mono ?_
              rintro e w4 ⟨v, rfl, hOp, hA⟩
              obtain ⟨xa, xc, rfl, hIx⟩ := hOp.ints
              have hxl : (prodL g p).length = N := (prod_ok HGO.out.1 HPO.out.1).len
              rw [hxl] at hIx ⊢
              replace hBo := hBo.on hA
              clear hOp hA hIp ep hxl
              go_wp2_with fail
              refine (find_true (some ⟨b, o, none⟩) xa m2 c2 N xc L (prodL g p) w4 (h2.below (hB.on hBo)) hIx (by omega) HI.out HPO.out.2).mono ?_
              rintro e w5 ⟨z3, rfl, hA⟩
              replace hBo := hBo.on hA
              clear hA hIx
              go_wp2_with fail
              go_roundw
              case rel => exact ⟨j + 1, rfl, by go_num, by omega, hBo⟩
              case measure => simp [intOf]; omega
            · obtain rfl : m2 = j := by omega
              go_wp2_with fail
              go_roundw
              case rel => exact ⟨k + 1, rfl, by go_num, by omega, hB.on hBo⟩
              case measure => simp [intOf]; omega
        · obtain rfl : m1 = k := by omega
          go_wp2_with fail
          go_ret
          exact ⟨rfl, hB⟩
end Go.Proofs.Ytkekkbbdhdamjaa
