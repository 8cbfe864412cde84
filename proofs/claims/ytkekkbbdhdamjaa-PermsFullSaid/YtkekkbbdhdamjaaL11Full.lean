/- The rotation and the exchange of the first two numbers (law11.PermsFull), at every input. -/
import Derived.Test.YtkekkbbdhdamjaaLawP
import Derived.Test.YtkekkbbdhdamjaaROrM
import Derived.BigRegion
import Derived.Deep.RegionLaw
import Derived.WalkKit
import Derived.WalkSpells
import Derived.WalkLawsBesides
import Derived.Deep.LoopGhost
import Derived.Deep.QuietTactic
import Derived.BigQuiet
import Derived.StillTailTactics
import Derived.Lib.Hide
import Derived.Outline
import Derived.Lib.QuietBelow
namespace Go.Proofs.Ytkekkbbdhdamjaa
open Go.ChangeShapes Go.WideShapes Go.ChangeAt Go.RowKit Go.Deep

theorem valid_gens {k : Nat} {gens : List (List Int)} (hk : k ≤ 16) (hl : gens.length ≤ 1024) (hg : ∀ g ∈ gens, okPerm g k) : validE (k : Int) gens = 0 := by
  unfold validE
  rw [if_neg (by omega), if_neg (by omega), Int.toNat_natCast, if_pos (List.all_eq_true.2 fun g h => permB_iff.2 (hg g h))]
theorem clo_some {k : Nat} {gens : List (List Int)} {L : List (List Int)} (hv : validE (k : Int) gens = 0) (hL : bfsL k gens = some L) : closE (k : Int) gens = 0 ∧ (closR (k : Int) gens).length = L.length := by
  unfold closE closR
  rw [if_neg (by simp [hv]), if_neg (by simp [hv]), Int.toNat_natCast, hL]
  exact ⟨rfl, sortP_len L⟩
theorem clo_none {k : Nat} {gens : List (List Int)} (hv : validE (k : Int) gens = 0) (hL : bfsL k gens = none) : closE (k : Int) gens = 2 ∧ (closR (k : Int) gens).length = 0 := by
  unfold closE closR
  rw [if_neg (by simp [hv]), if_neg (by simp [hv]), Int.toNat_natCast, hL]
  exact ⟨rfl, rfl⟩
theorem rot_facts {k : Nat} (h2 : 2 ≤ k) (hk : k ≤ 16) : closE (k : Int) [rt k 1] = 0 ∧ (closR (k : Int) [rt k 1]).length = k ∧ validE (k : Int) [rt k 1] = 0 ∧ ∃ o, orbR (k : Int) [rt k 1] = [o] ∧ o.length = k := by
  have hv : validE (k : Int) [rt k 1] = 0 := valid_gens hk (by simp) fun g hg => by simp at hg; subst hg; exact rt_ok' (by omega) (by omega)
  obtain ⟨L, hL, hl⟩ := rot_some (n := k) (by omega) (by omega)
  obtain ⟨c1, c2⟩ := clo_some hv hL
  obtain ⟨o1, o2⟩ := rot_orb (n := k) (by omega)
  refine ⟨c1, by rw [c2, hl], hv, orbL k [rt k 1] 0, ?_, o2⟩
  unfold orbR
  rw [if_neg (by simp [hv]), Int.toNat_natCast, o1]
theorem full_facts {k : Nat} (h2 : 2 ≤ k) (hk : k ≤ 16) : (k ≤ 6 → closE (k : Int) [rt k 1, tr k 0 1] = 0 ∧ (closR (k : Int) [rt k 1, tr k 0 1]).length = fact k) ∧ (6 < k → closE (k : Int) [rt k 1, tr k 0 1] = 2 ∧ (closR (k : Int) [rt k 1, tr k 0 1]).length = 0) := by
  have hg : ∀ g ∈ [rt k 1, tr k 0 1], okPerm g k := fun g hg => by
    simp at hg
    rcases hg with rfl | rfl
    · exact rt_ok' (by omega) (by omega)
    · exact tr_ok (by omega) (by omega)
  have hv := valid_gens hk (by simp) hg
  have r1 : Reach k [rt k 1, tr k 0 1] (rt k 1) := Reach.gen hg (by simp)
  have r2 : Reach k [rt k 1, tr k 0 1] (tr k 0 1) := Reach.gen hg (by simp)
  refine ⟨fun h6 => ?_, fun h6 => clo_none hv (full_none (by omega) hg r1 r2)⟩
  obtain ⟨L, hL, hl⟩ := full_some h6 hg r1 r2
  obtain ⟨c1, c2⟩ := clo_some hv hL
  exact ⟨c1, by rw [c2, hl]⟩
theorem swap_list {k : Nat} (_hk : 2 ≤ k) : ((idP k).set 0 1).set 1 0 = tr k 0 1 := by
  apply List.ext_getElem?
  intro i
  by_cases hi : i < k
  · rw [show (tr k 0 1)[i]? = some ((sw 0 1 i : Nat) : Int) from mkP_get hi]
    by_cases h1 : i = 1
    · subst h1
      rw [List.getElem?_set_self (by rw [List.length_set, show (idP k).length = k from mkP_len]; omega)]; rfl
    · rw [List.getElem?_set_ne (fun e => h1 e.symm)]
      by_cases h0 : i = 0
      · subst h0
        rw [List.getElem?_set_self (by rw [show (idP k).length = k from mkP_len]; omega)]; rfl
      · rw [List.getElem?_set_ne (fun e => h0 e.symm), show (idP k)[i]? = some (i : Int) from mkP_get hi]
        unfold sw
        rw [if_neg h0, if_neg h1]
  · rw [List.getElem?_eq_none (by rw [List.length_set, List.length_set, show (idP k).length = k from mkP_len]; omega), List.getElem?_eq_none (by rw [show (tr k 0 1).length = k from mkP_len]; omega)]
set_option maxRecDepth 20000 in
set_option maxHeartbeats 4000000 in
theorem lawFull_any (n : Nat) (W : World) (hn : n < 256) :
    Calls Try.prog 9 #[.int .u8 n] W fun e w' => e = .returned (.bool true) ∧ Below W.heap.size W w' := by
  obtain ⟨k, hk⟩ : ∃ k, 2 + n % 15 = k := ⟨_, rfl⟩
  have hk2 : 2 ≤ k := by omega
  have hk16 : k ≤ 16 := by omega
  have e1 : (n : Int).tmod 15 = ((n % 15 : Nat) : Int) := by rw [Int.tmod_eq_emod_of_nonneg (by omega)]; omega
  have e2 : 2 + (n : Int) % 15 = (k : Int) := by omega
  have hmk := make_intsP k (by omega)
  rw [arrI_nil] at hmk
  clear hk
  have HRF := Lib.hid (rot_facts hk2 hk16)
  have HFF := Lib.hid (full_facts hk2 hk16)
  go_enter Try.func9, Try.ntmps9
  go_wp2_with fail
  refine (sane11_any _).mono ?_
  rintro e w1 ⟨rfl, hB1⟩
  go_wp2_with fail
  go_region
  all_goals
    obtain ⟨w2, hw2⟩ : ∃ w2, ((w1.alloc (.cells (arrI k []) 3)).alloc (.cells (arrI k []) 3)).drew = w2 := ⟨_, rfl⟩
    have hs2 : (w1.alloc (.cells (arrI k []) 3)).heap.size = w1.heap.size + 1 := by simp
    have bA : Box w2 w1.heap.size (arrI k []) 3 := by rw [← hw2]; exact (Box.new w1 _ _).alloc _
    have bB : Box w2 (w1.heap.size + 1) (arrI k []) 3 := by rw [← hw2, ← hs2]; exact Box.new (w1.alloc (.cells (arrI k []) 3)) _ _
    have hB2 : Below W.heap.size W w2 := by rw [← hw2]; exact ((hB1.alloc hB1.size _).alloc (by have := hB1.size; simp; omega) _).drew
    have hsz1 := hB1.size
    rw [hw2]
    clear hw2 hs2 hmk hB1
  ·
    obtain ⟨b1, hb1⟩ : ∃ b, w1.heap.size = b := ⟨_, rfl⟩
    obtain ⟨b2, hb2⟩ : ∃ b, w1.heap.size + 1 = b := ⟨_, rfl⟩
    have hW1 : W.heap.size ≤ b1 := by omega
    have hW2 : W.heap.size ≤ b2 := by omega
    have hne : ¬ b1 = b2 := by omega
    have hne' : ¬ b2 = b1 := by omega
    have hx1 : Box w2 b1 (arrI k ((rt k 1).take 0)) 3 := by rw [← hb1]; first | exact bA | exact bB
    have hx2 : Box w2 b2 (arrI k (idP 0)) 3 := by rw [← hb2]; first | exact bA | exact bB
    (first | rw [hb2, hb1] | rw [hb1, hb2])
    clear bA bB hb1 hb2 hsz1
    go_wp2_with fail
    go_loopw [26] (fun i wr => ∃ x : Nat, i = .int .i64 x ∧ x ≤ k ∧ Box wr b1 (arrI k ((rt k 1).take x)) 3 ∧ Box wr b2 (arrI k (idP x)) 3 ∧ Below W.heap.size W wr) (fun i _ => k - (intOf i).toNat)
    case atStart => exact ⟨0, rfl, by omega, hx1, hx2, hB2⟩
    case round =>
      clear hx1 hx2 hB2
      obtain ⟨x, rfl, hx, hx1, hx2, hB2⟩ := hrel
      by_cases hlt : x < k
      · obtain ⟨y, hy⟩ : ∃ y, (x + 1) % k = y := ⟨_, rfl⟩
        have hyk : y < k := by rw [← hy]; exact Nat.mod_lt _ (by omega)
        have y0 : ((x : Int) + 1) % (k : Int) = (y : Int) := by rw [← hy, Int.natCast_emod]; rfl
        have y1 : ((x : Int) + 1).tmod (k : Int) = (y : Int) := by rw [Int.tmod_eq_emod_of_nonneg (by omega)]; exact y0
        have HT : Hid ((rt k 1).take (x + 1) = (rt k 1).take x ++ [(y : Int)]) := Lib.hid (by rw [List.take_add_one, show (rt k 1)[x]? = some (((x + 1) % k : Nat) : Int) from mkP_get hlt, hy]; rfl)
        have k0 : ¬ (k : Int) = 0 := by omega
        have k1 : ((k : Int) == 0) = false := by simp; omega
        have s0 : (0 : Int) ≤ (x : Int) := by omega
        have s1 : (x : Int) < (k : Int) := by omega
        have gf1 := hx1.frozen x
        have gf2 := hx2.frozen x
        obtain ⟨z1, hz1⟩ : ∃ v, wr.cell? ⟨b1, x, none⟩ = some v := ⟨_, (hx1.cell x).trans (arrI_get _ _ hlt)⟩
        obtain ⟨z2, hz2⟩ : ∃ v, wr.cell? ⟨b2, x, none⟩ = some v := ⟨_, (hx2.cell x).trans (arrI_get _ _ hlt)⟩
        have t1 : ((rt k 1).take x).length = x := by rw [List.length_take, show (rt k 1).length = k from mkP_len]; omega
        have p1 := ((hx1.set x (.int .i64 y)).setOther (a := ⟨b2, x, none⟩) (.int .i64 x) hne)
        rw [arrI_set k _ _ t1 hlt, ← HT.out] at p1
        have p2 := ((hx2.setOther (a := ⟨b1, x, none⟩) (.int .i64 y) hne').set x (.int .i64 x))
        rw [arrI_set k (idP x) _ (show (idP x).length = x from mkP_len) hlt, ← idP_snoc] at p2
        have hB3 := (hB2.setCell (p := ⟨b1, x, none⟩) hW1 (.int .i64 y)).setCell (p := ⟨b2, x, none⟩) hW2 (.int .i64 x)
        have HP := Lib.hid (And.intro p1 (And.intro p2 hB3))
        clear p1 p2 hB3 hx1 hx2 hB2 t1 hy
        go_wp2_with fail
        go_roundw
        case rel => exact ⟨x + 1, by go_num, by omega, HP.out.1, HP.out.2.1, HP.out.2.2⟩
        case measure => simp [intOf]; omega
      · obtain rfl : k = x := by omega
        rw [List.take_of_length_le (by rw [show (rt k 1).length = k from mkP_len]; exact Nat.le_refl _)] at hx1
        have o1 : OwnInts wr b1 3 (.slice (some ⟨b1, 0, none⟩) k k) (rt k 1) := own_arr hx1 mkP_len (Nat.le_refl _) (by omega)
        have o2 : OwnInts wr b2 3 (.slice (some ⟨b2, 0, none⟩) k k) (idP k) := own_arr hx2 mkP_len (Nat.le_refl _) (by omega)
        have i1 := own_ints o1 mkP_len
        have o3 := ownInts_set (ownInts_set o2 mkP_len (x := 0) (by omega) 1) (by rw [List.length_set]; exact mkP_len) (x := 1) (by omega) 0
        have i2 := own_ints o3 (by rw [List.length_set, List.length_set]; exact mkP_len)
        rw [swap_list hk2] at i2
        have i3 := (i1.setOther (p := ⟨b2, 0, none⟩) (.int .i64 1) (fun _ => by simp [Value.ownBlock]; omega)).setOther (p := ⟨b2, 1, none⟩) (.int .i64 0) (fun _ => by simp [Value.ownBlock]; omega)
        have hB3 := (hB2.setCell (p := ⟨b2, 0, none⟩) hW2 (.int .i64 1)).setCell (p := ⟨b2, 1, none⟩) hW2 (.int .i64 0)
        have gf0 := hx2.frozen 0
        have gf1 := hx2.frozen 1
        obtain ⟨z1, hz1⟩ : ∃ v, wr.cell? ⟨b2, 0, none⟩ = some v := ⟨_, (hx2.cell 0).trans (arrI_get _ _ (by omega))⟩
        obtain ⟨z2, hz2⟩ : ∃ v, wr.cell? ⟨b2, 1, none⟩ = some v := ⟨_, (hx2.cell 1).trans (arrI_get _ _ (by omega))⟩
        have s1 : (1 : Int) < (k : Int) := by omega
        have s2 : (0 : Int) < (k : Int) := by omega
        have HP := Lib.hid (And.intro i3 (And.intro i2 hB3))
        clear o1 o2 o3 i1 i2 i3 hB3 hx1 hx2 hB2
        obtain ⟨w3, hw3⟩ : ∃ w3, (wr.setCell ⟨b2, 0, none⟩ (.int .i64 1)).setCell ⟨b2, 1, none⟩ (.int .i64 0) = w3 := ⟨_, rfl⟩
        rw [hw3] at HP
        obtain ⟨i1, i2, hB3⟩ := HP.out
        clear HP
        go_wp2_with fail
        have hR1 : Rows (w3.alloc (.cells #[.slice (some ⟨b1, 0, none⟩) k k] 22)) (some ⟨w3.heap.size, 0, none⟩) 1 1 [rt k 1] := lit_rows (P := TT) (Box.new w3 _ _) (Olds.one (i1.below (al _ _)) fun _ _ _ => trivial) rfl (by omega)
        refine (closure_any k _ 1 1 _ _ hR1).mono ?_
        rintro e w4 ⟨la, ln, lc, rfl, hL, hA⟩
        obtain rfl : k = ln := by rw [← hL.len, HRF.out.2.1]
        rw [HRF.out.1]
        replace i1 := (i1.below (al _ _)).below hA
        replace i2 := (i2.below (al _ _)).below hA
        replace hB3 := (hB3.on (al _ _)).on hA
        clear hA hR1 hL
        go_wp2_with fail
        have hR2 : Rows (w4.alloc (.cells #[.slice (some ⟨b1, 0, none⟩) k k, .slice (some ⟨b2, 0, none⟩) k k] 22)) (some ⟨w4.heap.size, 0, none⟩) 2 2 [rt k 1, tr k 0 1] := lit_rows (P := TT) (Box.new w4 _ _) ((Olds.one (i1.below (al _ _)) fun _ _ _ => trivial).append (Olds.one (i2.below (al _ _)) fun _ _ _ => trivial)) rfl (by omega)
        refine (closure_any k _ 2 2 _ _ hR2).mono ?_
        rintro e w5 ⟨ma, mn, mc, rfl, hM, hA⟩
        have HM := Lib.hid hM.len
        obtain ⟨ce, hce⟩ : ∃ ce, closE (k : Int) [rt k 1, tr k 0 1] = ce := ⟨_, rfl⟩
        have HCE := Lib.hid hce
        rw [hce]
        replace i1 := (i1.below (al _ _)).below hA
        replace hB3 := (hB3.on (al _ _)).on hA
        clear hA hR2 hM i2 hce
        go_wp2_with fail
        have hR3 : Rows (w5.alloc (.cells #[.slice (some ⟨b1, 0, none⟩) k k] 22)) (some ⟨w5.heap.size, 0, none⟩) 1 1 [rt k 1] := lit_rows (P := TT) (Box.new w5 _ _) (Olds.one (i1.below (al _ _)) fun _ _ _ => trivial) rfl (by omega)
        refine (orbits_any k _ 1 1 _ _ hR3).mono ?_
        rintro e w6 ⟨oa, on, oc, rfl, hO, hA⟩
        obtain ⟨o, ho, hol⟩ := HRF.out.2.2.2
        rw [ho] at hO
        obtain rfl : 1 = on := hO.len
        rw [HRF.out.2.2.1]
        replace hB3 := (hB3.on (al _ _)).on hA
        clear hA hR3 i1 ho
        obtain ⟨ob, oo, rfl, hob⟩ := hO.at' (by omega)
        obtain ⟨xa, xn, xc, hcell, hX⟩ := hO.get (i := 0) rfl
        obtain rfl : k = xn := by rw [← hX.len, hol]
        rw [Nat.add_zero] at hcell
        clear hX hO hob hol
        by_cases h6 : 6 < k
        · have t6 : (6 : Int) < (k : Int) := by omega
          obtain rfl : ce = 2 := by rw [← HCE.out]; exact (HFF.out.2 h6).1
          obtain rfl : 0 = mn := by rw [← HM.out]; exact (HFF.out.2 h6).2.symm
          go_wp2_with fail
          go_ret
          exact ⟨rfl, hB3⟩
        · have t6 : ¬ (6 : Int) < (k : Int) := by omega
          obtain rfl : ce = 0 := by rw [← HCE.out]; exact (HFF.out.1 (by omega)).1
          obtain rfl : fact k = mn := by rw [← HM.out]; exact (HFF.out.1 (by omega)).2.symm
          have HFK := Lib.hid (show fact k = fact k from rfl)
          obtain ⟨F, hF⟩ : ∃ F, fact k = F := ⟨_, rfl⟩
          have HF := Lib.hid hF
          rw [hF]
          clear hF HFK
          go_wp2_with fail
          go_loopw [13, 14] (fun p q wz => ∃ (i A : Nat), q = .int .i64 i ∧ p = .int .i64 A ∧ 2 ≤ i ∧ i ≤ k + 1 ∧ Hid (A = fact (i - 1)) ∧ Below W.heap.size W wz) (fun _ q _ => k + 1 - (intOf q).toNat)
          case atStart => exact ⟨2, 1, rfl, rfl, by omega, by omega, Lib.hid rfl, hB3⟩
          case round =>
            clear hB3
            obtain ⟨i, A, rfl, rfl, hi2, hik, HA, hB3⟩ := hrel
            by_cases hle : i ≤ k
            · have hA2 : A ≤ 720 := by
                rw [HA.out]
                rcases (by omega : i = 2 ∨ i = 3 ∨ i = 4 ∨ i = 5 ∨ i = 6) with rfl | rfl | rfl | rfl | rfl <;> decide
              obtain ⟨C, hC⟩ : ∃ C, A * i = C := ⟨_, rfl⟩
              have hC2 : C ≤ 4320 := by rw [← hC]; exact Nat.le_trans (Nat.mul_le_mul hA2 (show i ≤ 6 by omega)) (by decide)
              have m1 : (A : Int) * (i : Int) = (C : Int) := by rw [← hC, Int.natCast_mul]
              have HC : Hid (C = fact (i + 1 - 1)) := Lib.hid (by
                rw [← hC, HA.out]
                obtain ⟨j, rfl⟩ : ∃ j, i = j + 1 := ⟨i - 1, by omega⟩
                rfl)
              have t7 : (i : Int) ≤ (k : Int) := by omega
              clear hC
              go_wp2_with fail
              go_roundw
              case rel => exact ⟨i + 1, C, by go_num, rfl, by omega, by omega, HC, hB3⟩
              case measure => simp [intOf]; omega
            · have t7 : ¬ (i : Int) ≤ (k : Int) := by omega
              obtain rfl : A = F := by rw [HA.out, ← HF.out]; congr 1; omega
              go_wp2_with fail
              go_ret
              exact ⟨rfl, hB3⟩
  ·
    obtain ⟨b1, hb1⟩ : ∃ b, w1.heap.size + 1 = b := ⟨_, rfl⟩
    obtain ⟨b2, hb2⟩ : ∃ b, w1.heap.size = b := ⟨_, rfl⟩
    have hW1 : W.heap.size ≤ b1 := by omega
    have hW2 : W.heap.size ≤ b2 := by omega
    have hne : ¬ b1 = b2 := by omega
    have hne' : ¬ b2 = b1 := by omega
    have hx1 : Box w2 b1 (arrI k ((rt k 1).take 0)) 3 := by rw [← hb1]; first | exact bA | exact bB
    have hx2 : Box w2 b2 (arrI k (idP 0)) 3 := by rw [← hb2]; first | exact bA | exact bB
    (first | rw [hb2, hb1] | rw [hb1, hb2])
    clear bA bB hb1 hb2 hsz1
    go_wp2_with fail
    go_loopw [26] (fun i wr => ∃ x : Nat, i = .int .i64 x ∧ x ≤ k ∧ Box wr b1 (arrI k ((rt k 1).take x)) 3 ∧ Box wr b2 (arrI k (idP x)) 3 ∧ Below W.heap.size W wr) (fun i _ => k - (intOf i).toNat)
    case atStart => exact ⟨0, rfl, by omega, hx1, hx2, hB2⟩
    case round =>
      clear hx1 hx2 hB2
      obtain ⟨x, rfl, hx, hx1, hx2, hB2⟩ := hrel
      by_cases hlt : x < k
      · obtain ⟨y, hy⟩ : ∃ y, (x + 1) % k = y := ⟨_, rfl⟩
        have hyk : y < k := by rw [← hy]; exact Nat.mod_lt _ (by omega)
        have y0 : ((x : Int) + 1) % (k : Int) = (y : Int) := by rw [← hy, Int.natCast_emod]; rfl
        have y1 : ((x : Int) + 1).tmod (k : Int) = (y : Int) := by rw [Int.tmod_eq_emod_of_nonneg (by omega)]; exact y0
        have HT : Hid ((rt k 1).take (x + 1) = (rt k 1).take x ++ [(y : Int)]) := Lib.hid (by rw [List.take_add_one, show (rt k 1)[x]? = some (((x + 1) % k : Nat) : Int) from mkP_get hlt, hy]; rfl)
        have k0 : ¬ (k : Int) = 0 := by omega
        have k1 : ((k : Int) == 0) = false := by simp; omega
        have s0 : (0 : Int) ≤ (x : Int) := by omega
        have s1 : (x : Int) < (k : Int) := by omega
        have gf1 := hx1.frozen x
        have gf2 := hx2.frozen x
        obtain ⟨z1, hz1⟩ : ∃ v, wr.cell? ⟨b1, x, none⟩ = some v := ⟨_, (hx1.cell x).trans (arrI_get _ _ hlt)⟩
        obtain ⟨z2, hz2⟩ : ∃ v, wr.cell? ⟨b2, x, none⟩ = some v := ⟨_, (hx2.cell x).trans (arrI_get _ _ hlt)⟩
        have t1 : ((rt k 1).take x).length = x := by rw [List.length_take, show (rt k 1).length = k from mkP_len]; omega
        have p1 := ((hx1.set x (.int .i64 y)).setOther (a := ⟨b2, x, none⟩) (.int .i64 x) hne)
        rw [arrI_set k _ _ t1 hlt, ← HT.out] at p1
        have p2 := ((hx2.setOther (a := ⟨b1, x, none⟩) (.int .i64 y) hne').set x (.int .i64 x))
        rw [arrI_set k (idP x) _ (show (idP x).length = x from mkP_len) hlt, ← idP_snoc] at p2
        have hB3 := (hB2.setCell (p := ⟨b1, x, none⟩) hW1 (.int .i64 y)).setCell (p := ⟨b2, x, none⟩) hW2 (.int .i64 x)
        have HP := Lib.hid (And.intro p1 (And.intro p2 hB3))
        clear p1 p2 hB3 hx1 hx2 hB2 t1 hy
        go_wp2_with fail
        go_roundw
        case rel => exact ⟨x + 1, by go_num, by omega, HP.out.1, HP.out.2.1, HP.out.2.2⟩
        case measure => simp [intOf]; omega
      · obtain rfl : k = x := by omega
        rw [List.take_of_length_le (by rw [show (rt k 1).length = k from mkP_len]; exact Nat.le_refl _)] at hx1
        have o1 : OwnInts wr b1 3 (.slice (some ⟨b1, 0, none⟩) k k) (rt k 1) := own_arr hx1 mkP_len (Nat.le_refl _) (by omega)
        have o2 : OwnInts wr b2 3 (.slice (some ⟨b2, 0, none⟩) k k) (idP k) := own_arr hx2 mkP_len (Nat.le_refl _) (by omega)
        have i1 := own_ints o1 mkP_len
        have o3 := ownInts_set (ownInts_set o2 mkP_len (x := 0) (by omega) 1) (by rw [List.length_set]; exact mkP_len) (x := 1) (by omega) 0
        have i2 := own_ints o3 (by rw [List.length_set, List.length_set]; exact mkP_len)
        rw [swap_list hk2] at i2
        have i3 := (i1.setOther (p := ⟨b2, 0, none⟩) (.int .i64 1) (fun _ => by simp [Value.ownBlock]; omega)).setOther (p := ⟨b2, 1, none⟩) (.int .i64 0) (fun _ => by simp [Value.ownBlock]; omega)
        have hB3 := (hB2.setCell (p := ⟨b2, 0, none⟩) hW2 (.int .i64 1)).setCell (p := ⟨b2, 1, none⟩) hW2 (.int .i64 0)
        have gf0 := hx2.frozen 0
        have gf1 := hx2.frozen 1
        obtain ⟨z1, hz1⟩ : ∃ v, wr.cell? ⟨b2, 0, none⟩ = some v := ⟨_, (hx2.cell 0).trans (arrI_get _ _ (by omega))⟩
        obtain ⟨z2, hz2⟩ : ∃ v, wr.cell? ⟨b2, 1, none⟩ = some v := ⟨_, (hx2.cell 1).trans (arrI_get _ _ (by omega))⟩
        have s1 : (1 : Int) < (k : Int) := by omega
        have s2 : (0 : Int) < (k : Int) := by omega
        have HP := Lib.hid (And.intro i3 (And.intro i2 hB3))
        clear o1 o2 o3 i1 i2 i3 hB3 hx1 hx2 hB2
        obtain ⟨w3, hw3⟩ : ∃ w3, (wr.setCell ⟨b2, 0, none⟩ (.int .i64 1)).setCell ⟨b2, 1, none⟩ (.int .i64 0) = w3 := ⟨_, rfl⟩
        rw [hw3] at HP
        obtain ⟨i1, i2, hB3⟩ := HP.out
        clear HP
        go_wp2_with fail
        have hR1 : Rows (w3.alloc (.cells #[.slice (some ⟨b1, 0, none⟩) k k] 22)) (some ⟨w3.heap.size, 0, none⟩) 1 1 [rt k 1] := lit_rows (P := TT) (Box.new w3 _ _) (Olds.one (i1.below (al _ _)) fun _ _ _ => trivial) rfl (by omega)
        refine (closure_any k _ 1 1 _ _ hR1).mono ?_
        rintro e w4 ⟨la, ln, lc, rfl, hL, hA⟩
        obtain rfl : k = ln := by rw [← hL.len, HRF.out.2.1]
        rw [HRF.out.1]
        replace i1 := (i1.below (al _ _)).below hA
        replace i2 := (i2.below (al _ _)).below hA
        replace hB3 := (hB3.on (al _ _)).on hA
        clear hA hR1 hL
        go_wp2_with fail
        have hR2 : Rows (w4.alloc (.cells #[.slice (some ⟨b1, 0, none⟩) k k, .slice (some ⟨b2, 0, none⟩) k k] 22)) (some ⟨w4.heap.size, 0, none⟩) 2 2 [rt k 1, tr k 0 1] := lit_rows (P := TT) (Box.new w4 _ _) ((Olds.one (i1.below (al _ _)) fun _ _ _ => trivial).append (Olds.one (i2.below (al _ _)) fun _ _ _ => trivial)) rfl (by omega)
        refine (closure_any k _ 2 2 _ _ hR2).mono ?_
        rintro e w5 ⟨ma, mn, mc, rfl, hM, hA⟩
        have HM := Lib.hid hM.len
        obtain ⟨ce, hce⟩ : ∃ ce, closE (k : Int) [rt k 1, tr k 0 1] = ce := ⟨_, rfl⟩
        have HCE := Lib.hid hce
        rw [hce]
        replace i1 := (i1.below (al _ _)).below hA
        replace hB3 := (hB3.on (al _ _)).on hA
        clear hA hR2 hM i2 hce
        go_wp2_with fail
        have hR3 : Rows (w5.alloc (.cells #[.slice (some ⟨b1, 0, none⟩) k k] 22)) (some ⟨w5.heap.size, 0, none⟩) 1 1 [rt k 1] := lit_rows (P := TT) (Box.new w5 _ _) (Olds.one (i1.below (al _ _)) fun _ _ _ => trivial) rfl (by omega)
        refine (orbits_any k _ 1 1 _ _ hR3).mono ?_
        rintro e w6 ⟨oa, on, oc, rfl, hO, hA⟩
        obtain ⟨o, ho, hol⟩ := HRF.out.2.2.2
        rw [ho] at hO
        obtain rfl : 1 = on := hO.len
        rw [HRF.out.2.2.1]
        replace hB3 := (hB3.on (al _ _)).on hA
        clear hA hR3 i1 ho
        obtain ⟨ob, oo, rfl, hob⟩ := hO.at' (by omega)
        obtain ⟨xa, xn, xc, hcell, hX⟩ := hO.get (i := 0) rfl
        obtain rfl : k = xn := by rw [← hX.len, hol]
        rw [Nat.add_zero] at hcell
        clear hX hO hob hol
        by_cases h6 : 6 < k
        · have t6 : (6 : Int) < (k : Int) := by omega
          obtain rfl : ce = 2 := by rw [← HCE.out]; exact (HFF.out.2 h6).1
          obtain rfl : 0 = mn := by rw [← HM.out]; exact (HFF.out.2 h6).2.symm
          go_wp2_with fail
          go_ret
          exact ⟨rfl, hB3⟩
        · have t6 : ¬ (6 : Int) < (k : Int) := by omega
          obtain rfl : ce = 0 := by rw [← HCE.out]; exact (HFF.out.1 (by omega)).1
          obtain rfl : fact k = mn := by rw [← HM.out]; exact (HFF.out.1 (by omega)).2.symm
          have HFK := Lib.hid (show fact k = fact k from rfl)
          obtain ⟨F, hF⟩ : ∃ F, fact k = F := ⟨_, rfl⟩
          have HF := Lib.hid hF
          rw [hF]
          clear hF HFK
          go_wp2_with fail
          go_loopw [13, 14] (fun p q wz => ∃ (i A : Nat), q = .int .i64 i ∧ p = .int .i64 A ∧ 2 ≤ i ∧ i ≤ k + 1 ∧ Hid (A = fact (i - 1)) ∧ Below W.heap.size W wz) (fun _ q _ => k + 1 - (intOf q).toNat)
          case atStart => exact ⟨2, 1, rfl, rfl, by omega, by omega, Lib.hid rfl, hB3⟩
          case round =>
            clear hB3
            obtain ⟨i, A, rfl, rfl, hi2, hik, HA, hB3⟩ := hrel
            by_cases hle : i ≤ k
            · have hA2 : A ≤ 720 := by
                rw [HA.out]
                rcases (by omega : i = 2 ∨ i = 3 ∨ i = 4 ∨ i = 5 ∨ i = 6) with rfl | rfl | rfl | rfl | rfl <;> decide
              obtain ⟨C, hC⟩ : ∃ C, A * i = C := ⟨_, rfl⟩
              have hC2 : C ≤ 4320 := by rw [← hC]; exact Nat.le_trans (Nat.mul_le_mul hA2 (show i ≤ 6 by omega)) (by decide)
              have m1 : (A : Int) * (i : Int) = (C : Int) := by rw [← hC, Int.natCast_mul]
              have HC : Hid (C = fact (i + 1 - 1)) := Lib.hid (by
                rw [← hC, HA.out]
                obtain ⟨j, rfl⟩ : ∃ j, i = j + 1 := ⟨i - 1, by omega⟩
                rfl)
              have t7 : (i : Int) ≤ (k : Int) := by omega
              clear hC
              go_wp2_with fail
              go_roundw
              case rel => exact ⟨i + 1, C, by go_num, rfl, by omega, by omega, HC, hB3⟩
              case measure => simp [intOf]; omega
            · have t7 : ¬ (i : Int) ≤ (k : Int) := by omega
              obtain rfl : A = F := by rw [HA.out, ← HF.out]; congr 1; omega
              go_wp2_with fail
              go_ret
              exact ⟨rfl, hB3⟩
theorem okWide_u8 {z : Int} (h : (Lit.int .u8 z).wf = true) : 0 ≤ z ∧ z ≤ 255 := by
  have e1 : IntKind.u8.min = 0 := rfl
  have e2 : IntKind.u8.max = 255 := rfl
  simpa [Lit.wf, e1, e2] using h
theorem lawFull_int (x : Int) (W : World) (hx : 0 ≤ x ∧ x ≤ 255) :
    Calls Try.prog 9 #[.int .u8 x] W fun e w' => e = .returned (.bool true) ∧ Below W.heap.size W w' := by
  obtain ⟨n, rfl⟩ : ∃ n : Nat, x = (n : Int) := ⟨x.toNat, by omega⟩
  exact lawFull_any n W (by omega)

set_option maxRecDepth 100000 in
set_option maxHeartbeats 2000000 in
theorem lifted (os : Os) (started : os.Started) (H : Type) (enc : TypeId × Value → H) :
    ReturnsInHanded {} Try.checked os 9 .any (Rows.permsFullSpec.pre6 enc Try.prog Try.f9 Rows.permsFullRow.domain false) (Rows.permsFullSpec.post enc Try.prog Try.f9 false true false false) := by
  refine returnsInHanded_of_change (C := Try.checked) row_own started (by kernel_rfl) Try.func9
    (ChangeSpec.witness6 (enc := enc) (C := Try.checked) false ⟨#[], #[.int .u8 0], []⟩ 8 (by kernel_rfl) (by kernel_rfl) (by kernel_rfl) (by kernel_rfl)) ?_
  intro W base args ds gs before hval0 hW _ _
  have hval : ∀ (j : Nat) t v, Try.f9.params[j]? = some t → args[j]? = some v → Value.okWide Try.prog W .any base t v := hval0
  have hW' := hW
  obtain ⟨p, q, hA0, hV, rfl, _, _⟩ := hW
  have hA : DataW.TrodAll enc Try.prog W 0 (fun _ => true) true Try.f9.params.toList args.toList ds p := hA0
  rw [Try.params9] at hA hval
  obtain ⟨v0, d0, rfl, rfl, h0⟩ := trodAll_one hA
  obtain ⟨rfl, rfl⟩ := trodVars_none hV
  obtain ⟨x, rfl, rfl, rfl, wx⟩ := open_int Try.underlying5 (hval 0 5 v0 rfl rfl) h0
  refine (lawFull_int x W (okWide_u8 wx)).mono fun e W' ⟨he, hb⟩ => ?_
  subst he
  exact ⟨_, rfl, law_post hW' rfl rfl (by kernel_rfl) rfl hb⟩
set_option maxHeartbeats 2000000 in
theorem permsFull_closed : joinedFacts Try.prog 9 Try.f9 Rows.permsFullSpec Rows.permsFullRow = true := by
  unfold joinedFacts
  refine bt (bt (bt (bt (bt (bt (bt (bt (bt (bt (bt (bt (bt (bt (bt (bt (bt (bt (bt (bt (bt (bt (bt (bt (bt (bt (bt (bt (bt (bt (bt ?a0 ?a1) ?a2) ?a3) ?a4) ?a5) ?a6) ?a7) ?a8) ?a9) ?a10) ?a11) ?a12) ?a13) ?a14) ?a15) ?a16) ?a17) ?a18) ?a19) ?a20) ?a21) ?a22) ?a23) ?a24) ?a25) ?a26) ?a27) ?a28) ?a29) ?a30) ?a31
  case a25 => exact prog_enter
  case a26 => exact prog_lifts
  case a27 => exact prog_make
  all_goals as_aux_lemma => kernel_rfl
theorem permsFull_holds : Rows.PermsFullSaid :=
  OpenClaim.holds_of_wide 9 Try.f9 rfl rfl rfl rfl rfl rfl rfl ⟨rfl, rfl, rfl, rfl, rfl⟩ rfl rfl rfl rfl rfl (by kernel_rfl) Try.func9 permsFull_closed
    (of_decide_eq_true (by kernel_rfl)) (by unfold Func.isWrapper; rw [if_neg (of_decide_eq_false (by kernel_rfl))]; exact ⟨rfl, rfl⟩)
    (fun os started H enc _ => lifted os started H enc)
#print axioms permsFull_holds
end Go.Proofs.Ytkekkbbdhdamjaa
