/- Contract of perms.Closure. -/
import Derived.Test.YtkekkbbdhdamjaaPSortF
import Derived.WalkMore
import Derived.Deep.LoopGhost
import Derived.WalkKit
import Derived.WalkSpells
import Derived.WalkLawsBesides
import Derived.Deep.LoopGhost
import Derived.Deep.QuietTactic
import Derived.BigQuiet
import Derived.StillTailTactics
import Derived.Lib.Hide
import Derived.Outline
import Derived.Lib.QuietBelow
namespace Go.Proofs.Ytkekkbbdhdamjaa
open Go.RowKit

/-- Blocks that stand and are neither the row's own nor the map's. -/
def PB (w : World) (vt : Value) (B q : Nat) : Prop := q < w.heap.size ∧ vt.ownBlock ≠ some q ∧ q ≠ B
theorem PB.on {w w' : World} {vt : Value} {B : Nat} (hb : w.heap.size ≤ w'.heap.size) {q : Nat} (h : PB w vt B q) : PB w' vt B q := ⟨Nat.lt_of_lt_of_le h.1 hb, h.2⟩
/-- The row of the permutations found, beside the map of their keys. -/
structure Todo (w : World) (base : Nat) (vt : Value) (B N : Nat) (L : List (List Int)) : Prop where
  rows : ORows w base (PB w vt B) 22 vt L
  ne : vt.ownBlock ≠ some B
  map : PMap w B N L
section
variable {w w' : World} {base B N : Nat} {vt : Value} {L : List (List Int)}
theorem Todo.below (h : Todo w base vt B N L) (hb : Below w.heap.size w w') : Todo w' base vt B N L :=
  ⟨(h.rows.below hb).imp fun _ => PB.on hb.size, h.ne, h.map.below hb⟩
/-- One more: its key goes into the map, then it goes into the row. -/
theorem Todo.put (hr : ORows w base (PB w vt B) 22 vt L) (hne : vt.ownBlock ≠ some B) (hg : w.grownBy w' (some B)) : ORows w' base (PB w' vt B) 22 vt L := by
  obtain ⟨us, h1, h2⟩ := hr
  refine ⟨us, World.ownsRow.kept h1 hg (.inr hne), (h2.grown hg fun q e h => ?_).imp fun _ => PB.on hg.size⟩
  injection e with e
  exact h.2.2 e.symm
theorem Todo.step {vt' : Value} {us : List Value} {ap : Option Addr} {np cp : Nat} {p : List Int} (hold : Olds w (PB w vt B) us L) (hp : Ints w ap np cp p) (hpq : ∀ q, 0 < np → (Value.slice ap np cp).ownBlock = some q → PB w vt B q)
    (hne : vt.ownBlock ≠ some B) (hM : PMap w B N (L ++ [p]))
    (hown : w'.ownsRow base 22 1 vt' (L.length + 1) (us ++ [.slice ap np cp])) (hg : w.grownBy w' vt.ownBlock) (hfr : vt'.ownBlock = vt.ownBlock ∨ vt'.ownBlock = some w.heap.size) : Todo w' base vt' B N (L ++ [p]) := by
  have hPT : ∀ q, PB w vt B q → PB w' vt' B q := by
    intro q hq
    refine ⟨Nat.lt_of_lt_of_le hq.1 hg.size, ?_, hq.2.2⟩
    rcases hfr with e | e
    · rw [e]; exact hq.2.1
    · rw [e]; intro e2; injection e2 with e2; have := hq.1; omega
  have hr : ∀ q, vt.ownBlock = some q → ¬ PB w vt B q := fun q e h => h.2.1 e
  refine ⟨⟨us ++ [.slice ap np cp], by rw [List.length_append]; exact hown, ((hold.append (Olds.one hp hpq)).grown hg hr).imp hPT⟩, ?_, hM.grown hg (Ne.symm hne)⟩
  rcases hfr with e | e
  · rw [e]; exact hne
  · rw [e]; intro e2; injection e2 with e2; have := hM.lt; omega
end

set_option maxRecDepth 20000 in
set_option maxHeartbeats 8000000 in
theorem closure_any (n : Int) (a0 : Option Addr) (m c : Nat) (gens : List (List Int)) (W : World) (h0 : Rows W a0 m c gens) :
    Calls Try.prog 19 #[.int .i64 n, .slice a0 m c] W (RetRows W (closR n gens) (closE n gens)) := by
  have hl0 := Lib.hid h0.len
  have hV := pcheck_any n a0 m c gens W h0
  by_cases hv : validE n gens = 0
  · obtain ⟨hn0, hn1, hg1, hok⟩ := validE_zero hv
    obtain ⟨N, rfl⟩ : ∃ N : Nat, n = (N : Int) := ⟨n.toNat, by omega⟩
    simp only [Int.toNat_natCast] at hok
    have HOK := Lib.hid hok
    have hm : m ≤ 1024 := by rw [← hl0.out]; exact hg1
    obtain ⟨R, hR⟩ : ∃ R, bfsL N gens = R := ⟨_, rfl⟩
    have HC : Hid (closR (N : Int) gens = rowsOf R ∧ closE (N : Int) gens = errOf R) := Lib.hid (by
      unfold closR closE; rw [if_neg (by simp [hv]), if_neg (by simp [hv]), Int.toNat_natCast, hR]; exact ⟨rfl, rfl⟩)
    have HR := Lib.hid hR
    rw [hv] at hV
    have hN : N ≤ 256 := by omega
    have hmk := make_intsP N (by omega)
    rw [arrI_nil] at hmk
    clear hok hR hv hg1
    have hmm := fun w => run_makeMap (P := Try.prog) 53 w
    obtain ⟨i22, hi22, hz220, hz221, hz222⟩ := info_parts info_ints
    go_enter Try.func19, Try.ntmps19
    go_wp2_with fail
    go_step3
    go_wp2_with fail
    refine hV.mono ?_
    rintro e w1 ⟨rfl, hB1⟩
    clear hV
    have hbx := Box.new w1 (arrI N []) 3
    have hal : Below w1.heap.size w1 (w1.alloc (.cells (arrI N []) 3)) := (Below.refl _ _).alloc (Nat.le_refl _) _
    go_wp2_with fail
    go_loopw [23] (fun i wr => ∃ k : Nat, i = .int .i64 k ∧ k ≤ N ∧ Box wr w1.heap.size (arrI N (idP k)) 3 ∧ Below w1.heap.size w1 wr) (fun i _ => N - (intOf i).toNat)
    case atStart => exact ⟨0, rfl, by omega, hbx, hal⟩
    case round =>
      clear hbx hal
      obtain ⟨k, rfl, hk, hbx, hB⟩ := hrel
      by_cases hlt : k < N
      · have s0 : (0 : Int) ≤ (k : Int) := by omega
        have s1 : (k : Int) < (N : Int) := by omega
        have gf := hbx.frozen k
        obtain ⟨v0, hv0⟩ : ∃ v, wr.cell? ⟨w1.heap.size, k, none⟩ = some v := ⟨_, (hbx.cell k).trans (arrI_get _ _ hlt)⟩
        have hset := hbx.set k (.int .i64 k)
        rw [arrI_set N (idP k) _ (show (idP k).length = k from mkP_len) hlt, ← idP_snoc] at hset
        have HSET := Lib.hid hset
        have hB2 : Below w1.heap.size w1 (wr.setCell ⟨w1.heap.size, k, none⟩ (.int .i64 k)) := hB.setCell (Nat.le_refl _) _
        clear hset hbx
        go_wp2_with fail
        go_roundw
        case rel => exact ⟨k + 1, by go_num, by omega, HSET.out, hB2⟩
        case measure => simp [intOf]; omega
      · obtain rfl : N = k := by omega
        have hid : OwnInts wr w1.heap.size 3 (.slice (some ⟨w1.heap.size, 0, none⟩) N N) (idP N) := own_arr hbx mkP_len (Nat.le_refl _) (by omega)
        have hIi : Ints wr (some ⟨w1.heap.size, 0, none⟩) N N (idP N) := by
          obtain ⟨a, c, e, hI⟩ := hid.ints
          injection e with e1 e2 e3
          subst e1
          rw [show (idP N).length = N from mkP_len] at hI
          rw [← e3] at hI
          exact hI
        have hlt1 := hB1.size
        have hlb := hbx.lt
        clear hbx hid
        go_wp2_with fail
        have hMp0 := PMap.made (N := N) (wr.alloc (.cells #[.slice (some ⟨w1.heap.size, 0, none⟩) N N] 22)) hN
        have hsz0 : (wr.alloc (.cells #[.slice (some ⟨w1.heap.size, 0, none⟩) N N] 22)).heap.size = wr.heap.size + 1 := by simp
        rw [hsz0] at hMp0
        obtain ⟨w3, hw3⟩ : ∃ w3, (wr.alloc (.cells #[.slice (some ⟨w1.heap.size, 0, none⟩) N N] 22)).alloc (.map #[] 0) = w3 := ⟨_, rfl⟩
        have hB3 : Below wr.heap.size wr w3 := hw3 ▸ ((Below.refl _ _).alloc (Nat.le_refl _) _).alloc (by simp) _
        have hbt : Box w3 wr.heap.size #[.slice (some ⟨w1.heap.size, 0, none⟩) N N] 22 := hw3 ▸ (Box.new _ _ _).alloc _
        rw [hw3] at hMp0 ⊢
        clear hw3 hsz0
        have hI3 := hIi.below hB3
        refine (keyOf_any (some ⟨w1.heap.size, 0, none⟩) N N (idP N) w3 hI3 hN (fun x hx => by have := (id_ok N).rng x hx; omega)).mono ?_
        rintro e w4 ⟨rfl, hB4⟩
        obtain ⟨w5, hput, hM5, hg5, hz5⟩ := (hMp0.below hB4).put (idP N) (id_ok N) (by simp)
        have hT5 : Todo w5 W.heap.size (.slice (some ⟨wr.heap.size, 0, none⟩) 1 1) (wr.heap.size + 1) N [idP N] := by
          have hz4 := hB4.size
          have hz3 := hB3.size
          have hl3 := hMp0.lt
          have hzB := hB.size
          refine ⟨Todo.put (orows_box (hbt.below hB4) (by omega) (hI3.below hB4) fun q _ e => ?_) (by simp [Value.ownBlock]) hg5, by simp [Value.ownBlock], by simpa using hM5⟩
          simp [Value.ownBlock] at e
          exact ⟨by omega, by simp [Value.ownBlock]; omega, by omega⟩
        have hB5 : Below W.heap.size W w5 := ((((hB1.on hB).on hB3).on hB4)).grown hg5 (by have := (((hB1.on hB).on hB3).on hB4).size; omega) (fun q e => by injection e with e; have := hB.size; omega)
        have hG0 : Hid (([idP N] : List (List Int)).length = 1 ∧ Grow N gens [idP N] ∧ bfs gens (4097 - 0) 0 [idP N] = R) := Lib.hid ⟨rfl, ⟨by simp, by simp, fun p hp => by simp at hp; subst hp; exact .id, by simp⟩, HR.out⟩
        obtain ⟨B, hBe⟩ : ∃ B, wr.heap.size + 1 = B := ⟨_, rfl⟩
        have hWB : W.heap.size ≤ B := by have := (hB1.on hB).size; omega
        obtain ⟨tb, htb⟩ : ∃ tb, some (⟨wr.heap.size, 0, none⟩ : Addr) = tb := ⟨_, rfl⟩
        rw [hBe] at hT5 hput ⊢
        rw [htb] at hT5 ⊢
        have hMB : B < w5.heap.size := hT5.map.lt
        clear hMp0 hM5 hg5 hz5 hB4 hbt hI3 hB3 hIi hlb hlt1 hB hB1 hBe htb
        go_wp2_with fail
        go_step3
        go_wp2_with fail
        clear hput hmk hmm hk hlt
        go_loopw [4, 5, 9] (fun t er i wz => ∃ (j : Nat) (L : List (List Int)) (ta : Option Addr) (nt tc : Nat), i = .int .i64 j ∧ er = .int .i64 0 ∧ t = .slice ta nt tc ∧ nt ≤ 4096 ∧ j ≤ nt ∧ Hid (L.length = nt ∧ Grow N gens L ∧ bfs gens (4097 - j) j L = R) ∧ Todo wz W.heap.size (.slice ta nt tc) B N L ∧ Below W.heap.size W wz) (fun _ _ i _ => 4097 - (intOf i).toNat)
        case atStart => exact ⟨0, _, _, _, _, rfl, rfl, rfl, by omega, by omega, hG0, hT5, hB5⟩
        case round =>
          clear hG0 hT5 hB5 hMB
          obtain ⟨j, L, ta, nt, tc, rfl, rfl, rfl, hnt, hj, HG, hT, hB⟩ := hrel
          by_cases hlt : j < nt
          · have s0 : (0 : Int) ≤ (j : Int) := by omega
            have s1 : (j : Int) < (nt : Int) := by omega
            obtain ⟨q, hq⟩ : ∃ q, L[j]? = some q := ⟨_, List.getElem?_eq_getElem (by rw [HG.out.1]; exact hlt)⟩
            have HRR : Hid (L.length = nt ∧ Grow N gens L ∧ L[j]? = some q ∧ nextB gens j (stepG (gens.drop 0) q (some L)) = R) := Lib.hid ⟨HG.out.1, HG.out.2.1, hq, by rw [List.drop_zero, nextB_of hq (by omega)]; exact HG.out.2.2⟩
            have HQO : Hid (okPerm q N) := Lib.hid (HG.out.2.1.ok HOK.out (List.mem_of_getElem? hq))
            clear hq HG
            go_wp2_with fail
            obtain ⟨wo, rfl⟩ : ∃ wo, wo = wr := ⟨_, rfl⟩
            go_loopw [4, 5, 45] (fun t er i wz => ∃ (k : Nat) (L2 : List (List Int)) (ta : Option Addr) (nt tc : Nat), i = .int .i64 k ∧ er = .int .i64 0 ∧ t = .slice ta nt tc ∧ nt ≤ 4096 ∧ j < nt ∧ k ≤ m ∧ Hid (L2.length = nt ∧ Grow N gens L2 ∧ L2[j]? = some q ∧ nextB gens j (stepG (gens.drop k) q (some L2)) = R) ∧ Todo wz W.heap.size (.slice ta nt tc) B N L2 ∧ Below W.heap.size W wz) (fun _ _ i _ => m - (intOf i).toNat)
            case atStart => exact ⟨0, L, ta, nt, tc, rfl, rfl, rfl, hnt, hlt, by omega, HRR, hT, hB⟩
            case round =>
              clear hT hB HRR hnt hj hlt s0 s1
              obtain ⟨k, L, ta, nt, tc, rfl, rfl, rfl, hnt, hj, hk, HG, hT, hB⟩ := hrel
              by_cases hltk : k < m
              · obtain ⟨g, hg⟩ := h0.has hltk
                obtain ⟨gb, go, rfl, hgb⟩ := h0.at' (by omega)
                obtain ⟨ga, gn, gc, eg, hIg⟩ := (h0.below hB).get hg
                obtain ⟨ta', tc', ett, hRt, _⟩ := hT.rows.rows
                injection ett with e1 e2 e3
                subst e1 e3
                rw [HG.out.1] at hRt
                clear e2
                obtain ⟨tb', to, rfl, htb⟩ := hRt.at' (by omega)
                obtain ⟨qa, qn, qc, et, hIq⟩ := hRt.get HG.out.2.2.1
                have HGO : Hid (okPerm g N) := Lib.hid (HOK.out g (List.mem_of_getElem? hg))
                have hgn : gn = N := by rw [← hIg.len, HGO.out.len]
                have hqn : qn = N := by rw [← hIq.len, HQO.out.len]
                obtain rfl : N = gn := hgn.symm
                obtain rfl : N = qn := hqn.symm
                clear hgn hqn
                have HST := Lib.hid (stepG_at (st := some L) (q := q) hg)
                have HGM := Lib.hid (List.mem_of_getElem? hg)
                have s0 : (0 : Int) ≤ (k : Int) := by omega
                have s1 : (k : Int) < (m : Int) := by omega
                have s2 : (0 : Int) ≤ (j : Int) := by omega
                have s3 : (j : Int) < (nt : Int) := by omega
                have HPR := Lib.hid (after_any ga qa N gc N qc g q wr hIg hIq HQO.out.rng (by omega))
                clear hg hRt hIg hIq
                go_wp2_with fail
                refine HPR.out.mono ?_
                rintro e w6 ⟨v, rfl, hOp, hbw⟩
                clear eg et HPR
                have hPO : Hid (okPerm (prodL g q) N) := Lib.hid (prod_ok HGO.out HQO.out)
                have hIN : Hid (nextB gens j (stepG (gens.drop (k + 1)) q (addG (some L) (prodL g q))) = R) := Lib.hid (by rw [← HST.out]; exact HG.out.2.2.2)
                have hNEW : Hid (prodL g q ∉ L → L.length ≠ 4096 → Grow N gens (L ++ [prodL g q])) := Lib.hid (fun h1 h2 => HG.out.2.1.add (List.mem_of_getElem? HG.out.2.2.1) HGM.out h1 h2)
                obtain ⟨p, hp⟩ : ∃ p, prodL g q = p := ⟨_, rfl⟩
                rw [hp] at hOp hPO hIN hNEW
                obtain ⟨pa, pc, rfl, hIp⟩ := hOp.ints
                rw [hPO.out.len] at hIp ⊢
                have hpl := hOp.lt
                rw [hPO.out.len] at hpl
                have htl := hT.rows.lt
                have hBl := hT.map.lt
                have hT' := hT.below hbw
                have hpq : Hid (∀ r, 0 < N → (Value.slice pa N pc).ownBlock = some r → PB w6 (.slice (some ⟨tb', to, none⟩) nt tc) B r) := Lib.hid (fun r _ e => by
                  have h1 := hpl r e
                  refine ⟨h1.2, fun e2 => ?_, by omega⟩
                  have h2 := htl r e2
                  omega)
                replace hB := hB.on hbw
                have hsm : Hid (∀ x ∈ p, 0 ≤ x ∧ x < 256) := Lib.hid (fun x hx => by have := hPO.out.rng x hx; omega)
                clear hp hOp hpl htl hbw hT HST hBl
                go_wp2_with fail
                refine (keyOf_any pa N pc p w6 hIp hN hsm.out).mono ?_
                rintro e w7 ⟨rfl, hB7⟩
                have hT7 := hT'.below hB7
                have hI7 := hIp.below hB7
                have hpq7 : Hid (∀ r, 0 < N → (Value.slice pa N pc).ownBlock = some r → PB w7 (.slice (some ⟨tb', to, none⟩) nt tc) B r) := Lib.hid (fun r h0 e => (hpq.out r h0 e).on hB7.size)
                replace hB := hB.on hB7
                clear hT' hIp hpq hB7
                have hlk := hT7.map.look p hPO.out
                cases hbm : decide (p ∈ L)
                · rw [hbm] at hlk
                  have HNI := Lib.hid (of_decide_eq_false hbm)
                  clear hbm
                  by_cases h4 : nt = 4096
                  · have h4' : ((nt : Int) == 4096) = true := by simp [h4]
                    have HRN : Hid (R = none) := Lib.hid (by rw [← hIN.out, addG_full HNI.out (by rw [HG.out.1]; exact h4), stepG_none]; rfl)
                    clear h4
                    go_wp2_with fail
                    (try rw [Exit.noGoto_ret])
                    (refine bodyPost_ret (v := .tuple #[.slice none 0 0, .int .i64 2]) (by simp [results, Try.results19, go_sem]) rfl ?_)
                    exact ⟨none, 0, 0, by rw [HC.out.2, HRN.out]; rfl, by rw [HC.out.1, HRN.out]; exact Rows.nil _, hB⟩
                  · have h4' : ((nt : Int) == 4096) = false := by simp; omega
                    go_wp2_with fail
                    refine (keyOf_any pa N pc p w7 hI7 hN hsm.out).mono ?_
                    rintro e w8 ⟨rfl, hB8⟩
                    have hT8 := hT7.below hB8
                    obtain ⟨w9, hput, hM9, hg9, hz9⟩ := hT8.map.put p hPO.out HNI.out
                    have hR9 := Todo.put hT8.rows hT8.ne hg9
                    have hne9 := hT8.ne
                    have hI9 : Ints w9 pa N pc p := (hI7.below hB8).grown hg9 (fun h0 e => by
                      have := (hpq7.out B h0 e).2.2; exact this rfl)
                    have hpq9 : Hid (∀ r, 0 < N → (Value.slice pa N pc).ownBlock = some r → PB w9 (.slice (some ⟨tb', to, none⟩) nt tc) B r) := Lib.hid (fun r h0 e => (hpq7.out r h0 e).on (by have := hB8.size; omega))
                    have hBge : W.heap.size ≤ B := hWB
                    replace hB := (hB.on hB8).grown hg9 (hB.on hB8).size (fun q e => by injection e with e; omega)
                    obtain ⟨us, hus, hold⟩ := hR9
                    rw [HG.out.1] at hus
                    have hul := hus.lt
                    have hbs := hB.size
                    have HOLD := Lib.hid hold
                    have HNE := Lib.hid hne9
                    clear hold hT7 hT8 hI7 hpq7 hB8 hg9 hz9 hne9 hlk
                    go_wp2_with (at_builtin; refine wpList_append_own2 _ rfl _ _ 31 rfl W.heap.size 22 i22 (.slice none 0 0) 1 24 Try.underlying31 hi22 hz220 hz221 hz222 rfl (by decide) _ _ _ (hus.alloc _) rfl ⟨_, 0, none⟩ 1 1 [.slice pa N pc] rfl rfl (cell_one_new _ _ _) (by simp [Value.oneCell']) (by unfold maxLen; omega) (by omega) (by first | omega | (simp; omega)) ?_; intro v' w4 hown' hgrow hfr; obtain ⟨va, vc, rfl, _, _⟩ := own_slice hown')
                    go_roundw
                    case rel =>
                      have hal : Below w9.heap.size w9 (w9.alloc (.cells #[.slice pa N pc] 22)) := (Below.refl _ _).alloc (Nat.le_refl _) _
                      refine ⟨k + 1, L ++ [p], va, nt + 1, vc, by go_num, rfl, rfl, by omega, by omega, by omega, Lib.hid ⟨by rw [List.length_append, HG.out.1]; rfl, hNEW.out HNI.out (by rw [HG.out.1]; exact h4), ?_, ?_⟩, ?_, (hB.on hal).grown hgrow (by have := hal.size; omega) (fun r e => (hul r e).1)⟩
                      · rw [List.getElem?_append_left (by rw [HG.out.1]; exact hj)]; exact HG.out.2.2.1
                      · rw [← addG_new HNI.out (by rw [HG.out.1]; exact h4)]; exact hIN.out
                      · exact Todo.step ((HOLD.out.imp fun r h => PB.on hal.size h).below hal) (hI9.below hal) (fun r h0 e => (hpq9.out r h0 e).on hal.size) HNE.out (hM9.below hal) (by rw [HG.out.1]; exact hown') hgrow hfr
                    case measure => simp [intOf]; omega
                · rw [hbm] at hlk
                  have HIN := Lib.hid (of_decide_eq_true hbm)
                  clear hbm
                  go_wp2_with fail
                  go_roundw
                  case rel => exact ⟨k + 1, L, _, nt, tc, by go_num, rfl, rfl, hnt, hj, by omega, Lib.hid ⟨HG.out.1, HG.out.2.1, HG.out.2.2.1, by rw [← addG_in HIN.out]; exact hIN.out⟩, hT7, hB⟩
                  case measure => simp [intOf]; omega
              · obtain rfl : m = k := by omega
                have HE : Hid (L.length = nt ∧ Grow N gens L ∧ bfs gens (4097 - (j + 1)) (j + 1) L = R) := Lib.hid ⟨HG.out.1, HG.out.2.1, by
                  have := HG.out.2.2.2
                  rw [stepG_last (by rw [hl0.out]; omega)] at this
                  exact this⟩
                go_wp2_with fail
                go_roundw
                case rel => exact ⟨j + 1, L, ta, nt, tc, by go_num, rfl, rfl, hnt, by omega, HE, hT, hB⟩
                case measure => simp [intOf]; omega
          · obtain rfl : nt = j := by omega
            have HE : Hid (R = some L) := Lib.hid (by rw [← HG.out.2.2, bfs_end (List.getElem?_eq_none (by rw [HG.out.1]; omega)) (by omega)])
            have hLl : L.length = nt := HG.out.1
            have hSF := sortF_any hT.rows (fun r e h => h.2.1 e) HG.out.2.1.nd (by omega) hB.size
            rw [hLl] at hSF
            have HSF := Lib.hid hSF
            clear hLl hSF
            go_wp2_with fail
            refine HSF.out.mono ?_
            rintro e w6 ⟨rfl, ⟨a, c', e1, hRw⟩, hB6⟩
            injection e1 with e1 _ e3
            subst e1 e3
            go_wp2_with fail
            (try rw [Exit.noGoto_ret])
            (refine bodyPost_ret (v := .tuple #[.slice ta nt tc, .int .i64 0]) (by simp [results, Try.results19, go_sem]) rfl ?_)
            exact ⟨ta, nt, tc, by rw [HC.out.2, HE.out]; rfl, by rw [HC.out.1, HE.out]; exact hRw, hB.trans hB6⟩
  · have hne : (validE n gens != 0) = true := by simp [hv]
    have HC : Hid (closR n gens = [] ∧ closE n gens = validE n gens) := Lib.hid (by unfold closR closE; rw [if_pos hv, if_pos hv]; exact ⟨rfl, rfl⟩)
    obtain ⟨ve, hve⟩ : ∃ ve, validE n gens = ve := ⟨_, rfl⟩
    rw [hve] at hV hne HC
    clear hv hve
    go_enter Try.func19, Try.ntmps19
    go_wp2_with fail
    go_step3
    go_wp2_with fail
    refine hV.mono ?_
    rintro e w1 ⟨rfl, hB1⟩
    clear hV
    go_wp2_with fail
    (refine bodyPost_ret (v := .tuple #[.slice none 0 0, .int .i64 ve]) (by simp [results, Try.results19, go_sem]) rfl ?_)
    exact ⟨none, 0, 0, by rw [HC.out.2], by rw [HC.out.1]; exact Rows.nil _, hB1⟩
end Go.Proofs.Ytkekkbbdhdamjaa
