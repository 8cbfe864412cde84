/- slices.Insert where there is no room: the new row; and the joined contract. -/
import Derived.Test.YtjiacdihfbbfjaaIns
import Derived.Lib.AppendZerosOnto
import Derived.Laws.NewBlocks
import Derived.WalkKit
import Derived.WalkSpells
import Derived.WalkLawsBesides
import Derived.Deep.LoopGhost
import Derived.Deep.QuietTactic
import Derived.BigQuiet
import Derived.StillTailTactics
import Derived.Lib.Hide
import Derived.Outline
import Derived.Lib.QuietBelow
namespace Go.Proofs.Ytjiacdihfbbfjaa
open Go.RowKit

theorem grow_row {us : List Value} {i n G : Nat} {z : Value} (hu : us.length = n) (hi : i < n) (hG : n + 1 ≤ G) :
    ((us.take i).toArray ++ Builtin.zeroCells #[z] (n + 1 - i) ++ Builtin.zeroCells #[z] (G - (n + 1))).size = G ∧
      ((us.take i).toArray ++ Builtin.zeroCells #[z] (n + 1 - i) ++ Builtin.zeroCells #[z] (G - (n + 1))).toList.take i = us.take i := by
  refine ⟨by simp [Builtin.zeroCells]; omega, ?_⟩
  have hl : (us.take i).length = i := by rw [List.length_take]; omega
  simp only [Array.toList_append]
  rw [List.append_assoc, List.take_append_of_le_length (by omega), List.take_of_length_le (by omega)]
theorem grow_take {R : Array Value} {us : List Value} {i n : Nat} {u : Value} (hu : us.length = n) (hi : i < n) (hR : n + 1 ≤ R.size) (ht : R.toList.take i = us.take i) :
    (shift1 (shift2 R u i) us i).toList.take (n + 1) = insAt us i u ∧ (shift1 (shift2 R u i) us i).size = R.size ∧ (shift2 R u i).size = R.size := by
  have hl : (us.take i).length = i := by rw [List.length_take]; omega
  have e : (shift2 R u i).toList = us.take i ++ [u] ++ R.toList.drop (i + 1) := by
    unfold shift2; rw [ht]; rfl
  have z : (shift2 R u i).size = R.size := by
    rw [← Array.length_toList, e]; simp; omega
  have e1 : (shift1 (shift2 R u i) us i).toList = insAt us i u ++ (us.take i ++ [u] ++ R.toList.drop (i + 1)).drop (n + 1) := by
    unfold shift1 insAt
    rw [e]
    show List.take (i + 1) (us.take i ++ [u] ++ R.toList.drop (i + 1)) ++ us.drop i ++ List.drop (i + 1 + (us.drop i).length) _ = _
    rw [List.take_append_of_le_length (by simp; omega), List.take_of_length_le (by simp; omega), List.length_drop, hu, show i + 1 + (n - i) = n + 1 by omega]
    simp
  have hl2 : (insAt us i u).length = n + 1 := by rw [insAt_len _ _ _ (by omega), hu]
  refine ⟨by rw [e1, List.take_append_of_le_length (by omega), List.take_of_length_le (by omega)], ?_, z⟩
  rw [← Array.length_toList, e1]
  simp [hl2]
  omega

set_option maxRecDepth 20000 in
set_option maxHeartbeats 2000000 in
theorem insert_grow (g n i vb : Nat) (ap : Option Addr) (np cp : Nat) (ll : List (List Int)) (us : List Value) (p : List Int) (base : Nat) (w : World) (hO : w.ownsRow base 22 1 (.slice (some ⟨g, 0, none⟩) n n) n us) (hE : Elems w (some g) us ll) (hl : ll.length = n)
    (hp : Ints w ap np cp p) (hne : 0 < np → (Value.slice ap np cp).ownBlock ≠ some g) (hb : Box w vb #[.slice ap np cp] 22) (hn : n ≤ 1000000) (hi : i < n) (hbase : base ≤ w.heap.size) :
    Calls Try.prog 61 #[.slice (some ⟨g, 0, none⟩) n n, .int .i64 i, .slice (some ⟨vb, 0, none⟩) 1 1] w (RetIns w base (.slice (some ⟨g, 0, none⟩) n n) (insAt ll i p)) := by
  obtain ⟨i22, hi22, hz220, hz221, hz222⟩ := info_parts info_ints
  obtain ⟨hul, h2⟩ := hO
  rcases h2 with ⟨h2, _⟩ | ⟨g', c', cur, e1, hbg, hg, hnc, hcm, hcs, htake⟩
  · cases h2
  injection e1 with e1 _ e3
  subst e3
  obtain rfl : g = g' := by simpa using e1
  simp only [Nat.mul_one] at hul hcs htake
  have hcur : cur.toList = us := by rw [← htake, List.take_of_length_le (by simp; omega)]
  have hcell : ∀ j v, us[j]? = some v → w.cell? ⟨g, j, none⟩ = some v := fun j v hj => by
    rw [cell_of_row w g j cur 22 (0, 0) hg]
    rw [← hcur] at hj
    simpa using hj
  have hgw : g < w.heap.size := (Array.getElem?_eq_some_iff.1 hg).1
  have hvw := hb.lt
  have hold : (Builtin.firstCells i22.size i (.slice (some ⟨g, 0, none⟩) i n)).run Try.prog w.drew = .ok (us.take i).toArray w.drew := by
    rw [hz221]
    exact run_firstCells_some w.drew 1 i ⟨g, 0, none⟩ i n (us.take i) (by rw [List.length_take]; omega) (fun j v hj => by
      rw [Addr.add_lit, Nat.zero_add]
      rw [List.getElem?_take] at hj
      split at hj
      · exact hcell j v hj
      · cases hj)
  have hrz : ∀ ty, (Builtin.append_ #[28, 3] ty #[.slice (some ⟨g, 0, none⟩) i n, .int .i64 ((n : Int) + 1 - (i : Int))]).run Try.prog w =
      .ok (.slice (some ⟨w.heap.size, 0, none⟩) (n + 1) (grownCap w (n + 1) n 22)) (w.drew.alloc (.cells ((us.take i).toArray ++ Builtin.zeroCells #[.slice none 0 0] (n + 1 - i) ++ Builtin.zeroCells #[.slice none 0 0] (grownCap w (n + 1) n 22 - (n + 1))) 22)) := fun ty => by
    have h := Lib.run_append_grow_zeros (P := Try.prog) w 28 3 ty 22 i22 _ .i64 .i64 Try.underlying28 Try.underlying3 hi22 hz220 (some ⟨g, 0, none⟩) i n (us.take i) hold (n + 1 - i) (by omega) (by omega) (by omega) (by omega) (by rw [hz222]; omega) (by rw [hz222, show i + (n + 1 - i) = n + 1 by omega]; exact growslice_fits (by omega) (by omega))
    rw [show i + (n + 1 - i) = n + 1 by omega] at h
    rw [show (n : Int) + 1 - (i : Int) = ((n + 1 - i : Nat) : Int) by omega]
    exact h
  have hGn : n + 1 ≤ grownCap w (n + 1) n 22 := grownCap_ge w _ _ _
  have hGm := grownCap_le_maxLen w (n + 1) n 22 (by unfold maxLen; omega)
  obtain ⟨G, hG⟩ : ∃ G, grownCap w (n + 1) n 22 = G := ⟨_, rfl⟩
  rw [hG] at hrz hGn hGm
  obtain ⟨hRz, hRt⟩ := grow_row (z := .slice none 0 0) hul hi hGn
  obtain ⟨R, hR⟩ : ∃ R, (us.take i).toArray ++ Builtin.zeroCells #[.slice none 0 0] (n + 1 - i) ++ Builtin.zeroCells #[.slice none 0 0] (G - (n + 1)) = R := ⟨_, rfl⟩
  rw [hR] at hrz hRz hRt
  clear hR hG hcur
  obtain ⟨W1, hW1⟩ : ∃ W1, w.drew.alloc (.cells R 22) = W1 := ⟨_, rfl⟩
  rw [hW1] at hrz
  have hN : W1.heap[w.heap.size]? = some (.cells R 22 (0, 0)) := by rw [← hW1]; exact heap_alloc_new w.drew _
  have hz1 : W1.heap.size = w.heap.size + 1 := by rw [← hW1]; simp
  have hk1 : ∀ k, k < w.heap.size → W1.heap[k]? = w.heap[k]? := fun k hk => by rw [← hW1]; exact Below.heap_alloc w.drew _ k hk
  obtain ⟨hft, hfz, hfz1⟩ := grow_take (u := .slice ap np cp) hul hi (by omega) hRt
  have hcp1 : ∀ ty dc, (Builtin.copy_ #[28, 28] ty #[.slice (some ⟨w.heap.size, i, none⟩) (n + 1 - i) dc, .slice (some ⟨vb, 0, none⟩) 1 1]).run Try.prog W1 = .ok (goInt 1) (W1.setRow w.heap.size (shift2 R (.slice ap np cp) i)) := fun ty dc =>
    run_copy_row Try.prog W1 28 28 ty 22 w.heap.size i (n + 1 - i) dc ⟨vb, 0, none⟩ 1 1 R 22 [.slice ap np cp] Try.underlying28 info_size22 hN (by simp only [Nat.min_def]; split <;> simp; omega)
      (fun j v hj => by
        cases j with
        | zero => simp at hj; subst hj; rw [Addr.add_lit, World.cell?_of_block (w := w) (hk1 vb hvw)]; simpa using hb.cell 0
        | succ j => simp at hj)
      (by rw [hRz]; simp; omega) (by simp [Value.oneCell'])
  obtain ⟨R1, hR1⟩ : ∃ R1, shift2 R (.slice ap np cp) i = R1 := ⟨_, rfl⟩
  rw [hR1] at hcp1 hft hfz hfz1
  obtain ⟨W2, hW2⟩ : ∃ W2, W1.setRow w.heap.size R1 = W2 := ⟨_, rfl⟩
  rw [hW2] at hcp1
  have hN2 : W2.heap[w.heap.size]? = some (.cells R1 22 (0, 0)) := by rw [← hW2]; exact setRow_heap W1 w.heap.size R _ 22 _ hN
  have hk2 : ∀ k, k < w.heap.size → W2.heap[k]? = w.heap[k]? := fun k hk => by rw [← hW2, setRow_other _ _ _ _ (by omega)]; exact hk1 k hk
  have hdl : (us.drop i).length = n - i := by rw [List.length_drop, hul]
  have hcp2 : ∀ ty dc sc, (Builtin.copy_ #[28, 28] ty #[.slice (some ⟨w.heap.size, i + 1, none⟩) (n - i) dc, .slice (some ⟨g, i, none⟩) (n - i) sc]).run Try.prog W2.drew = .ok (goInt (us.drop i).length) (W2.drew.setRow w.heap.size (shift1 R1 us i)) := fun ty dc sc =>
    run_copy_row Try.prog W2.drew 28 28 ty 22 w.heap.size (i + 1) (n - i) dc ⟨g, i, none⟩ (n - i) sc R1 22 (us.drop i) Try.underlying28 info_size22 hN2 (by rw [hdl]; simp only [Nat.min_def]; split <;> omega)
      (fun j v hj => by
        rw [Addr.add_lit, World.cell?_of_block (w := w) (hk2 g hgw)]
        rw [List.getElem?_drop] at hj
        exact hcell (i + j) v hj)
      (by rw [hdl, hfz1, hRz]; omega) (fun v hv => hE.one v (List.mem_of_mem_drop hv))
  have hgrow : w.grownBy (W2.drew.setRow w.heap.size (shift1 R1 us i)) (some g) := by
    rw [← hW2, ← hW1]
    refine ⟨rfl, rfl, rfl, ?_, fun k hk hne => ?_⟩
    · have := hz1; rw [← hW1] at this; rw [setRow_size]; show w.heap.size ≤ (World.setRow _ _ _).heap.size; rw [setRow_size, this]; omega
    · rw [setRow_other _ _ _ _ (by omega)]
      have := hk2 k hk
      rw [← hW2, ← hW1] at this
      exact this
  have hrow2 : (W2.drew.setRow w.heap.size (shift1 R1 us i)).heap[w.heap.size]? = some (.cells (shift1 R1 us i) 22 (0, 0)) := setRow_heap W2.drew w.heap.size R1 _ 22 _ hN2
  have hul' := Lib.hid hul
  have hl' := Lib.hid hl
  have hcs' := Lib.hid hcs
  have hft' := Lib.hid hft
  have hfz' := Lib.hid hfz
  have hRz' := Lib.hid hRz
  have hgw' := Lib.hid hgrow
  have hrow' := Lib.hid hrow2
  clear hul hl hcs hft hfz hRz hgrow hrow2 hz1 hk1 hk2 hN hN2 hW1 hW2 hR1 hfz1 hdl htake hg hold
  have hw1 : IntKind.i64.wrap ((i : Int) + 1) = (i : Int) + 1 := by rw [IntKind.wrap_i64]; omega
  have hb1 : (0 : Int) ≤ (i : Int) + 1 := by omega
  have htn : ((i : Int) + 1).toNat = i + 1 := by omega
  have hb2 : ¬ (G = i + 1) := by omega
  have hb3 : (i : Int) ≤ (n : Int) + 1 := by omega
  have hb4 : ¬ (G = i) := by omega
  have hb5 : i ≤ n := by omega
  have hb6 : i ≤ n + 1 := by omega
  have hb7 : ¬ (n = i) := by omega
  have hb8 : (i : Int) ≤ (n : Int) := by omega
  have hb9 : (n : Int) < (n : Int) + 1 := by omega
  unfold maxLen at hGm hcm
  go_enter Try.func61, Try.ntmps61
  go_wp2_with (first
    | (at_builtin; refine Lib.wpList_append_run _ rfl _ _ _ _ rfl _ _ rfl rfl _ _ (hrz _) ?_)
    | (with_reducible refine wpList_copy_known _ rfl _ _ 28 28 rfl _ _ rfl rfl (hcp1 _ _) ?_))
  go_region_law (refine step_copy_known rfl _ _ 28 28 rfl _ _ (by simp [Act.eval, Act.put]) (by simp [Act.eval, Act.put]) (hcp2 _ _ _) ?_)
  go_wp2
  go_ret
  refine ⟨_, rfl, ⟨insAt us i (.slice ap np cp), ?_, ?_⟩, hgw'.out, .inr (fun k e => by simp [Value.ownBlock] at e; omega)⟩
  · rw [insAt_len _ _ _ (by rw [hl'.out]; omega), hl'.out]
    refine ⟨by rw [insAt_len _ _ _ (by rw [hul'.out]; omega), hul'.out]; omega, .inr ⟨w.heap.size, G, shift1 R1 us i, rfl, hbase, hrow'.out, by omega, by unfold maxLen; omega, by rw [hfz'.out, hRz'.out, Nat.mul_one], by rw [Nat.mul_one]; exact hft'.out⟩⟩
  · exact (hE.ins i ⟨ap, np, cp, rfl, hp, hne⟩).moved hgw'.out (.inr (fun k e => by simp [Value.ownBlock] at e; omega))

theorem insert_any (a : Option Addr) (n c i vb : Nat) (ap : Option Addr) (np cp : Nat) (ll : List (List Int)) (p : List Int) (base : Nat) (w : World) (hO : OwnRows w base 22 (.slice a n c) ll) (hl : ll.length = n)
    (hp : Ints w ap np cp p) (hne : 0 < np → (Value.slice ap np cp).ownBlock ≠ (Value.slice a n c).ownBlock) (hb : Box w vb #[.slice ap np cp] 22) (hgv : (Value.slice a n c).ownBlock ≠ some vb) (hn : n ≤ 1000000) (hi : i ≤ n) (hbase : base ≤ w.heap.size) :
    Calls Try.prog 61 #[.slice a n c, .int .i64 i, .slice (some ⟨vb, 0, none⟩) 1 1] w (RetIns w base (.slice a n c) (insAt ll i p)) := by
  obtain ⟨us, hO, hE⟩ := hO
  rw [hl] at hO
  rcases Nat.lt_or_ge i n with h | h
  · obtain ⟨g, rfl⟩ : ∃ g, a = some ⟨g, 0, none⟩ := by
      rcases hO.2 with ⟨_, h0⟩ | ⟨g, c', cur, e, _⟩
      · omega
      · injection e with e; exact ⟨g, e⟩
    have hgv' : vb ≠ g := by intro e; subst e; exact hgv rfl
    rcases Nat.lt_or_ge n c with hlt | hge
    · exact insert_shift g n c i vb ap np cp ll us p base w hO hE hl hp hne hb hgv' hn h hlt
    · obtain rfl : c = n := by have := (own_cap hO).1; omega
      exact insert_grow g c i vb ap np cp ll us p base w hO hE hl hp hne hb hn h hbase
  · obtain rfl : i = n := by omega
    exact insert_end a i c vb ap np cp ll us p base w hO hE hl hp hne hb hn hbase
end Go.Proofs.Ytjiacdihfbbfjaa
