/- Orbits and stabilizers (law11.PermsOrbits), at every input. -/
import Derived.Test.YtkekkbbdhdamjaaLawP
import Derived.Test.YtkekkbbdhdamjaaPClosed
import Derived.Test.YtkekkbbdhdamjaaOrbA
import Derived.Test.YtkekkbbdhdamjaaROrM
import Derived.BigRegion
import Derived.Deep.RegionHeld3
import Derived.WalkKit
import Derived.WalkSpells
import Derived.WalkLawsBesides
import Derived.Deep.LoopGhost
import Derived.Deep.QuietTactic
import Derived.BigQuiet
import Derived.StillTailTactics
import Derived.Lib.Hide
import Derived.Outline
import Derived.Lib.QuietBelow
namespace Go.Proofs.Ytkekkbbdhdamjaa
open Go.ChangeShapes Go.WideShapes Go.ChangeAt Go.RowKit Go.Deep

theorem orb_cases (n : Int) (gens : List (List Int)) : (validE n gens ≠ 0 ∧ closE n gens = validE n gens ∧ validE n gens ≠ 0 ∧ closR n gens = [] ∧ orbR n gens = []) ∨ (validE n gens = 0 ∧ closE n gens = 2 ∧ closR n gens = []) ∨ (validE n gens = 0 ∧ closE n gens = 0 ∧ ∃ N : Nat, n = (N : Int) ∧ N ≤ 256 ∧ (∀ g ∈ gens, okPerm g N) ∧ CloL N gens (closR n gens) ∧ orbR n gens = orbsTo N gens N) := by
  by_cases hv : validE n gens = 0
  · obtain ⟨h1, h2, h3, h4⟩ := validE_zero hv
    obtain ⟨N, rfl⟩ : ∃ N : Nat, n = (N : Int) := ⟨n.toNat, by omega⟩
    rw [Int.toNat_natCast] at h4
    cases e : bfsL N gens with
    | none =>
      refine .inr (.inl ⟨hv, ?_, ?_⟩)
      · unfold closE; rw [if_neg (by simp [hv]), Int.toNat_natCast, e]; rfl
      · unfold closR; rw [if_neg (by simp [hv]), Int.toNat_natCast, e]; rfl
    | some L =>
      refine .inr (.inr ⟨hv, ?_, N, rfl, by omega, h4, ?_, ?_⟩)
      · unfold closE; rw [if_neg (by simp [hv]), Int.toNat_natCast, e]; rfl
      · unfold closR; rw [if_neg (by simp [hv]), Int.toNat_natCast, e]; exact (CloL.of h4 e).sort
      · unfold orbR; rw [if_neg (by simp [hv]), Int.toNat_natCast]
  · refine .inl ⟨hv, ?_, hv, ?_, ?_⟩
    · unfold closE; rw [if_pos hv]
    · unfold closR; rw [if_pos hv]
    · unfold orbR; rw [if_pos hv]
theorem validE_two {n : Int} {gens : List (List Int)} (_h : validE n gens ≠ 0) (h2 : gens.length ≤ 6) : validE n gens ≠ 2 := by
  unfold validE
  split
  · decide
  · rw [if_neg (by omega)]
    split <;> decide

theorem mark_same {N : Nat} {gens O : List (List Int)} {A : List Int} (hF : OrbF N gens O) (hg : ∀ g ∈ gens, okPerm g N) (hA : ∀ x, x < N → ∃ (j : Nat) (o : List Int), O[j]? = some o ∧ (x : Int) ∈ o ∧ A[x]? = some ((j : Int) + 1)) {x y j : Nat} {o : List Int} (ho : O[j]? = some o) (hx : (x : Int) ∈ o) (_hxN : x < N) (hyN : y < N) (hc : Conn gens x y) : A[y]? = some ((j : Int) + 1) := by
  obtain ⟨r, hr, rfl, _⟩ := hF.has j o ho
  obtain ⟨z, hz, hzc⟩ := (mem_orbL hg hr _).1 hx
  obtain rfl : x = z := by omega
  have hy : (y : Int) ∈ orbL N gens r := (mem_orbL hg hr _).2 ⟨y, rfl, hzc.trans hc⟩
  obtain ⟨j', o', ho', hyo, hAy⟩ := hA y hyN
  rw [hF.disj j' j o' _ y ho' ho hyo hy] at hAy
  exact hAy
set_option maxRecDepth 20000 in
set_option maxHeartbeats 4000000 in
theorem lawOrb_any (n : Int) (a1 : Option Addr) (m1 c1 : Nat) (gens : List (List Int)) (W : World) (h1 : Rows W a1 m1 c1 gens) :
    Calls Try.prog 7 #[.int .i64 n, .slice a1 m1 c1] W fun e w' => e = .returned (.bool true) ∧ Below W.heap.size W w' := by
  by_cases hn : n < 0
  · go_enter Try.func7, Try.ntmps7
    go_wp2_with fail
    refine (sane11_any _).mono ?_
    rintro e w1 ⟨rfl, hB1⟩
    go_wp2_with fail
    go_ret
    exact ⟨rfl, hB1⟩
  cases hf : fewB n gens
  · have HF := Lib.hid hf
    clear hf
    go_enter Try.func7, Try.ntmps7
    go_wp2_with fail
    refine (sane11_any _).mono ?_
    rintro e w1 ⟨rfl, hB1⟩
    go_wp2_with fail
    have hc := few_any n a1 m1 c1 gens w1 (h1.below hB1)
    rw [HF.out] at hc
    refine hc.mono ?_
    rintro e w2 ⟨rfl, rfl⟩
    clear hc
    go_wp2_with fail
    go_ret
    exact ⟨rfl, hB1⟩
  have HF := Lib.hid hf
  have hm1 : gens.length ≤ 6 := by
    unfold fewB at hf
    simp only [Bool.and_eq_true, decide_eq_true_eq] at hf
    exact hf.2.2
  clear hf
  rcases orb_cases n gens with ⟨hv, hce, _, hcr, hor⟩ | ⟨hv, hce, hcr⟩ | ⟨hv, hce, N, rfl, hN, hg, hCL, hor⟩
  · have h2 := validE_two hv hm1
    obtain ⟨ve, hve⟩ : ∃ ve, validE n gens = ve := ⟨_, rfl⟩
    rw [hve] at h2 hce hv
    have HX := Lib.hid (And.intro hve (And.intro hce (And.intro hcr hor)))
    have t1 : (ve == 2) = false := by simpa using h2
    have t2 : (ve != 0) = true := by simpa using hv
    have t3 : ¬ ve = 2 := h2
    have t4 : ¬ ve = 0 := hv
    clear hce hcr hor hve hv h2
    go_enter Try.func7, Try.ntmps7
    go_wp2_with fail
    refine (sane11_any _).mono ?_
    rintro e w1 ⟨rfl, hB1⟩
    go_wp2_with fail
    have hc := few_any n a1 m1 c1 gens w1 (h1.below hB1)
    rw [HF.out] at hc
    refine hc.mono ?_
    rintro e w2 ⟨rfl, rfl⟩
    clear hc
    go_wp2_with fail
    refine (closure_any n a1 m1 c1 gens w2 (h1.below hB1)).mono ?_
    rintro e w3 ⟨la, ln, lc, rfl, hL, hA⟩
    rw [HX.out.2.1]
    rw [HX.out.2.2.1] at hL
    obtain rfl : 0 = ln := hL.len
    clear hL
    replace hB1 := hB1.on hA
    clear hA
    go_wp2_with fail
    refine (orbits_any n a1 m1 c1 gens w3 (h1.below hB1)).mono ?_
    rintro e w4 ⟨oa, on, oc, rfl, hO, hA⟩
    rw [HX.out.1]
    rw [HX.out.2.2.2] at hO
    obtain rfl : 0 = on := hO.len
    clear hO
    replace hB1 := hB1.on hA
    clear hA
    go_wp2_with fail
    go_ret
    exact ⟨rfl, hB1⟩
  · have HX := Lib.hid (And.intro hv (And.intro hce hcr))
    clear hce hcr hv
    go_enter Try.func7, Try.ntmps7
    go_wp2_with fail
    refine (sane11_any _).mono ?_
    rintro e w1 ⟨rfl, hB1⟩
    go_wp2_with fail
    have hc := few_any n a1 m1 c1 gens w1 (h1.below hB1)
    rw [HF.out] at hc
    refine hc.mono ?_
    rintro e w2 ⟨rfl, rfl⟩
    clear hc
    go_wp2_with fail
    refine (closure_any n a1 m1 c1 gens w2 (h1.below hB1)).mono ?_
    rintro e w3 ⟨la, ln, lc, rfl, hL, hA⟩
    rw [HX.out.2.1]
    rw [HX.out.2.2] at hL
    obtain rfl : 0 = ln := hL.len
    clear hL
    replace hB1 := hB1.on hA
    clear hA
    go_wp2_with fail
    refine (orbits_any n a1 m1 c1 gens w3 (h1.below hB1)).mono ?_
    rintro e w4 ⟨oa, on, oc, rfl, hO, hA⟩
    rw [HX.out.1]
    clear hO
    replace hB1 := hB1.on hA
    clear hA
    go_wp2_with fail
    go_ret
    exact ⟨rfl, hB1⟩
  obtain ⟨L, hL⟩ : ∃ L, closR (N : Int) gens = L := ⟨_, rfl⟩
  obtain ⟨O, hO⟩ : ∃ O, orbR (N : Int) gens = O := ⟨_, rfl⟩
  rw [hL] at hCL
  have hOF : OrbF N gens O := by rw [← hO, hor]; exact OrbF.of hg
  have HX := Lib.hid (And.intro hv (And.intro hce (And.intro hL hO)))
  have HG := Lib.hid hg
  have HCL := Lib.hid hCL
  have HOF := Lib.hid hOF
  have hNN : ¬ (256 : Int) < (N : Int) := by omega
  have hmk := make_intsP N (by omega)
  rw [arrI_nil] at hmk
  clear hv hce hL hO hor hg hCL hOF
  go_enter Try.func7, Try.ntmps7
  go_wp2_with fail
  refine (sane11_any _).mono ?_
  rintro e w1 ⟨rfl, hB1⟩
  go_wp2_with fail
  have hc := few_any N a1 m1 c1 gens w1 (h1.below hB1)
  rw [HF.out] at hc
  refine hc.mono ?_
  rintro e w2 ⟨rfl, rfl⟩
  clear hc
  go_wp2_with fail
  refine (closure_any N a1 m1 c1 gens w2 (h1.below hB1)).mono ?_
  rintro e w3 ⟨la, ln, lc, rfl, hRL, hA⟩
  rw [HX.out.2.1]
  rw [HX.out.2.2.1] at hRL
  replace hB1 := hB1.on hA
  clear hA
  go_wp2_with fail
  refine (orbits_any N a1 m1 c1 gens w3 (h1.below hB1)).mono ?_
  rintro e w4 ⟨oa, on, oc, rfl, hRO, hA⟩
  rw [HX.out.1]
  rw [HX.out.2.2.2] at hRO
  replace hRL := hRL.below hA
  replace hB1 := hB1.on hA
  clear hA
  have HLN := Lib.hid hRL.len
  have HON := Lib.hid hRO.len
  have hon : on ≤ 9223372036854775807 := by
    have h1 := hRO.cap
    have h2 := hRO.mx
    unfold maxLen at h2
    omega
  have hbx := Box.new w4 (arrI N []) 3
  have hal : Below w4.heap.size w4 (w4.alloc (.cells (arrI N []) 3)) := (Below.refl _ _).alloc (Nat.le_refl _) _
  have hz : arrI N [] = arrI N (List.replicate N 0) := by
    unfold arrI; congr 1; apply List.map_congr_left; intro i hi; simp [List.mem_range.1 hi]
  rw [hz] at hbx
  have hA0 : OwnInts (w4.alloc (.cells (arrI N []) 3)) w4.heap.size 3 (.slice (some ⟨w4.heap.size, 0, none⟩) N N) (List.replicate N 0) := by
    rw [hz]; exact own_arr hbx (by simp) (Nat.le_refl _) (by omega)
  have HA0 : Hid ((List.replicate N (0 : Int)).length = N ∧ AtI N O 0 0 (List.replicate N 0)) := Lib.hid ⟨by simp, by simp, fun x hx j o ho hm => by simp [partO] at hm, fun x hx _ => by simp [hx]⟩
  clear hbx hz
  go_wp2_with fail
  obtain ⟨b, hb⟩ : ∃ b, w4.heap.size = b := ⟨_, rfl⟩
  have hWb : W.heap.size ≤ b := by rw [← hb]; exact hB1.size
  rw [hb] at hA0 ⊢
  have HB := Lib.hid hb
  clear hb hmk
  go_loopw [78] (fun i wr => ∃ (j : Nat) (A : List Int), i = .int .i64 j ∧ j ≤ on ∧ Hid (A.length = N ∧ AtI N O j 0 A) ∧ OwnInts wr b 3 (.slice (some ⟨b, 0, none⟩) N N) A ∧ Below w4.heap.size w4 wr) (fun i _ => on - (intOf i).toNat)
  case atStart => exact ⟨0, _, rfl, by omega, HA0, hA0, hal⟩
  case round =>
    clear HA0 hA0 hal
    obtain ⟨j, A, rfl, hj, HA, hAt, hB⟩ := hrel
    by_cases hlt : j < on
    · obtain ⟨o, ho⟩ := hRO.has hlt
      obtain ⟨rb, ro, rfl, hrb⟩ := hRO.at' (by omega)
      obtain ⟨ca, cn, cc, eo, hIo⟩ := (hRO.below hB).get ho
      obtain ⟨r, hrN, hor, hor0⟩ := HOF.out.has j o ho
      have HO := Lib.hid (And.intro ho (And.intro hor hor0))
      have hcn : 0 < cn := by
        rw [← hIo.len]
        exact (List.getElem?_eq_some_iff.1 hor0).1
      obtain ⟨cb, co, rfl, hcb⟩ := hIo.at' hcn
      have e0 := hIo.get hor0
      rw [Nat.add_zero] at e0
      have s0 : (0 : Int) ≤ (j : Int) := by omega
      have s1 : (j : Int) < (on : Int) := by omega
      have s2 : ((cn : Int) == 0) = false := by simp; omega
      have s3 : (0 : Int) < (cn : Int) := by omega
      have s4 : ¬ (cn : Int) = 0 := by omega
      have HLo := Lib.hid hIo.len
      have hIo0 : Ints w4 (some ⟨cb, co, none⟩) cn cc o := by
        obtain ⟨ca2, cn2, cc2, eo2, hIo2⟩ := hRO.get ho
        rw [hB.cell (p := ⟨rb, ro + j, none⟩) hrb, eo2] at eo
        injection eo with eo
        injection eo with x1 x2 x3
        subst x2 x3
        rw [← x1]; exact hIo2
      have hcnb : cn ≤ 9223372036854775807 := by
        have h1 := hIo0.cap
        have h2 := hIo0.mx
        unfold maxLen at h2
        omega
      clear hor ho hor0
      by_cases hj0 : j = 0
      · have n0 : ¬ 0 < j := by omega
        have n1 : decide (0 < j) = false := decide_eq_false n0
        clear hj0
        go_wp2_with fail
        go_region
        obtain ⟨wi, hwi⟩ : ∃ wi, wr.drew = wi := ⟨_, rfl⟩
        have hBi : Below w4.heap.size w4 wi := by rw [← hwi]; first | exact hB | exact hB.drew
        have hAi : OwnInts wi b 3 (.slice (some ⟨b, 0, none⟩) N N) A := by rw [← hwi]; first | exact hAt | exact hAt.below (Below.refl _ _).drew
        have HAi : Hid (A.length = N ∧ AtI N O j 0 A) := Lib.hid HA.out
        rw [hwi]
        clear hwi hAt hB
        go_wp2_with fail
        go_loopw [105] (fun i wr => ∃ (k : Nat) (A : List Int), i = .int .i64 k ∧ k ≤ cn ∧ Hid (A.length = N ∧ AtI N O j k A) ∧ OwnInts wr b 3 (.slice (some ⟨b, 0, none⟩) N N) A ∧ Below w4.heap.size w4 wr) (fun i _ => cn - (intOf i).toNat)
        case atStart => exact ⟨0, A, rfl, by omega, HAi, hAi, hBi⟩
        case round =>
          clear HAi hAi hBi
          obtain ⟨k, A, rfl, hk, HA, hAt, hB⟩ := hrel
          by_cases hlk : k < cn
          · obtain ⟨xx, hx⟩ : ∃ xx, o[k]? = some xx := ⟨_, List.getElem?_eq_getElem (by rw [HLo.out]; exact hlk)⟩
            obtain ⟨X, rfl, hXc⟩ := (mem_orbL HG.out hrN xx).1 (by rw [← HO.out.2.1]; exact List.mem_of_getElem? hx)
            have hXN : X < N := hXc.lt HG.out hrN
            have hd : o.Pairwise (· < ·) := by rw [HO.out.2.1]; exact orbL_lt _ _ _
            obtain ⟨hA0, hA1⟩ := HA.out.2.mark HOF.out HO.out.1 hx hXN hd
            have HA1 : Hid ((A.set X ((j : Int) + 1)).length = N ∧ AtI N O j (k + 1) (A.set X ((j : Int) + 1))) := Lib.hid ⟨hA1.len, hA1⟩
            have hIw := hIo0.below (Lib.hid hB).out
            have ex := hIw.get hx
            have ea := (own_ints hAt HA.out.1).get hA0
            rw [Nat.zero_add] at ea
            have gf : wr.frozen? ⟨b, X, none⟩ = false := by
              obtain ⟨b', eb, _, _, gf⟩ := own_spot hAt HA.out.1 (by omega)
              injection eb with eb
              injection eb with eb
              rw [eb]; exact gf X
            have hO2 := ownInts_set hAt HA.out.1 hXN ((j : Int) + 1)
            have hB2 := hB.setCell (p := ⟨b, X, none⟩) (by rw [HB.out]; exact Nat.le_refl _) (.int .i64 ((j : Int) + 1))
            have v0 : ¬ (X : Int) < 0 := by omega
            have v1 : ¬ (N : Int) ≤ (X : Int) := by omega
            have v2 : (0 : Int) ≤ (X : Int) := by omega
            have v3 : (X : Int) < (N : Int) := by omega
            have v4 : (0 : Int) ≤ (k : Int) := by omega
            have v5 : (k : Int) < (cn : Int) := by omega
            have w0 : IntKind.i64.wrap ((j : Int) + 1) = (j : Int) + 1 := by rw [IntKind.wrap_i64]; omega
            have HD := Lib.hid (And.intro hx hd)
            clear hA0 hA1 hx hd
            by_cases hk0 : k = 0
            · have n0' : ¬ 0 < k := by omega
              have n1' : decide (0 < k) = false := decide_eq_false n0'
              clear hk0 hIw hAt hB
              go_wp2_with fail
              go_roundw
              case rel => exact ⟨k + 1, A.set X ((j : Int) + 1), by go_num, by omega, HA1, hO2, hB2⟩
              case measure => simp [intOf]; omega
            · obtain ⟨yy, hy⟩ : ∃ yy, o[k - 1]? = some yy := ⟨_, List.getElem?_eq_getElem (by rw [HLo.out]; omega)⟩
              have ey := hIw.get hy
              have hyx : yy < (X : Int) := by
                obtain ⟨a1', e1'⟩ := List.getElem?_eq_some_iff.1 hy
                obtain ⟨a2', e2'⟩ := List.getElem?_eq_some_iff.1 HD.out.1
                have := List.pairwise_iff_getElem.1 HD.out.2 (k - 1) k a1' a2' (by omega)
                rw [e1', e2'] at this; exact this
              have v6 : ¬ (X : Int) ≤ yy := by omega
              have n0' : 0 < k := by omega
              have n1' : decide (0 < k) = true := decide_eq_true n0'
              have hw1' : IntKind.i64.wrap ((k : Int) - 1) = (k : Int) - 1 := by rw [IntKind.wrap_i64]; have := hIo0.cap; have := hIo0.mx; unfold maxLen at this; omega
              have u8' : (1 : Int) ≤ (k : Int) := by omega
              have u9' : (k : Int) ≤ (cn : Int) := by omega
              have u0' : (0 : Int) ≤ (k : Int) - 1 := by omega
              have u1' : (k : Int) - 1 < (cn : Int) := by omega
              have u2' : ((k : Int) - 1).toNat = k - 1 := by omega
              clear hk0 hIw hAt hB hy hyx
              go_wp2_with fail
              go_roundw
              case rel => exact ⟨k + 1, A.set X ((j : Int) + 1), by go_num, by omega, HA1, hO2, hB2⟩
              case measure => simp [intOf]; omega
          · obtain rfl : cn = k := by omega
            have HN : Hid (A.length = N ∧ AtI N O (j + 1) 0 A) := Lib.hid ⟨HA.out.1, by
              have := HA.out.2
              rw [← HLo.out] at this
              exact this.next HO.out.1⟩
            go_wp2_with fail
            go_roundw
            case rel => exact ⟨j + 1, A, by go_num, by omega, HN, hAt, hB⟩
            case measure => simp [intOf]; omega
      · obtain ⟨o', ho'⟩ := hRO.has (i := j - 1) (by omega)
        obtain ⟨ca', cn', cc', eo', hIo'⟩ := (hRO.below hB).get ho'
        obtain ⟨r', hrN', hor', hor0'⟩ := HOF.out.has (j - 1) o' ho'
        have hlr : (r' : Int) < (r : Int) := HOF.out.inc (j - 1) o' o r' r ho' (by rw [show j - 1 + 1 = j by omega]; exact HO.out.1) hor0' HO.out.2.2
        have hcn' : 0 < cn' := by
          rw [← hIo'.len]
          exact (List.getElem?_eq_some_iff.1 hor0').1
        obtain ⟨cb', co', rfl, hcb'⟩ := hIo'.at' hcn'
        have e0' := hIo'.get hor0'
        rw [Nat.add_zero] at e0'
        have s3' : (0 : Int) < (cn' : Int) := by omega
        have n0 : 0 < j := by omega
        have n1 : decide (0 < j) = true := decide_eq_true n0
        have hw1 : IntKind.i64.wrap ((j : Int) - 1) = (j : Int) - 1 := by rw [IntKind.wrap_i64]; omega
        have u8 : (1 : Int) ≤ (j : Int) := by omega
        have u9 : (j : Int) ≤ (on : Int) := by omega
        have u0 : (0 : Int) ≤ (j : Int) - 1 := by omega
        have u1 : (j : Int) - 1 < (on : Int) := by omega
        have u2 : ((j : Int) - 1).toNat = j - 1 := by omega
        have u3 : ¬ (r : Int) ≤ (r' : Int) := by omega
        have u4 : ¬ r ≤ r' := fun h => by have := hlr; omega
        clear ho' hor' hor0' hj0
        go_wp2_with fail
        go_region
        clear eo' e0' hIo' hlr
        obtain ⟨wi, hwi⟩ : ∃ wi, wr.drew = wi := ⟨_, rfl⟩
        have hBi : Below w4.heap.size w4 wi := by rw [← hwi]; first | exact hB | exact hB.drew
        have hAi : OwnInts wi b 3 (.slice (some ⟨b, 0, none⟩) N N) A := by rw [← hwi]; first | exact hAt | exact hAt.below (Below.refl _ _).drew
        have HAi : Hid (A.length = N ∧ AtI N O j 0 A) := Lib.hid HA.out
        rw [hwi]
        clear hwi hAt hB
        go_wp2_with fail
        go_loopw [105] (fun i wr => ∃ (k : Nat) (A : List Int), i = .int .i64 k ∧ k ≤ cn ∧ Hid (A.length = N ∧ AtI N O j k A) ∧ OwnInts wr b 3 (.slice (some ⟨b, 0, none⟩) N N) A ∧ Below w4.heap.size w4 wr) (fun i _ => cn - (intOf i).toNat)
        case atStart => exact ⟨0, A, rfl, by omega, HAi, hAi, hBi⟩
        case round =>
          clear HAi hAi hBi
          obtain ⟨k, A, rfl, hk, HA, hAt, hB⟩ := hrel
          by_cases hlk : k < cn
          · obtain ⟨xx, hx⟩ : ∃ xx, o[k]? = some xx := ⟨_, List.getElem?_eq_getElem (by rw [HLo.out]; exact hlk)⟩
            obtain ⟨X, rfl, hXc⟩ := (mem_orbL HG.out hrN xx).1 (by rw [← HO.out.2.1]; exact List.mem_of_getElem? hx)
            have hXN : X < N := hXc.lt HG.out hrN
            have hd : o.Pairwise (· < ·) := by rw [HO.out.2.1]; exact orbL_lt _ _ _
            obtain ⟨hA0, hA1⟩ := HA.out.2.mark HOF.out HO.out.1 hx hXN hd
            have HA1 : Hid ((A.set X ((j : Int) + 1)).length = N ∧ AtI N O j (k + 1) (A.set X ((j : Int) + 1))) := Lib.hid ⟨hA1.len, hA1⟩
            have hIw := hIo0.below (Lib.hid hB).out
            have ex := hIw.get hx
            have ea := (own_ints hAt HA.out.1).get hA0
            rw [Nat.zero_add] at ea
            have gf : wr.frozen? ⟨b, X, none⟩ = false := by
              obtain ⟨b', eb, _, _, gf⟩ := own_spot hAt HA.out.1 (by omega)
              injection eb with eb
              injection eb with eb
              rw [eb]; exact gf X
            have hO2 := ownInts_set hAt HA.out.1 hXN ((j : Int) + 1)
            have hB2 := hB.setCell (p := ⟨b, X, none⟩) (by rw [HB.out]; exact Nat.le_refl _) (.int .i64 ((j : Int) + 1))
            have v0 : ¬ (X : Int) < 0 := by omega
            have v1 : ¬ (N : Int) ≤ (X : Int) := by omega
            have v2 : (0 : Int) ≤ (X : Int) := by omega
            have v3 : (X : Int) < (N : Int) := by omega
            have v4 : (0 : Int) ≤ (k : Int) := by omega
            have v5 : (k : Int) < (cn : Int) := by omega
            have w0 : IntKind.i64.wrap ((j : Int) + 1) = (j : Int) + 1 := by rw [IntKind.wrap_i64]; omega
            have HD := Lib.hid (And.intro hx hd)
            clear hA0 hA1 hx hd
            by_cases hk0 : k = 0
            · have n0' : ¬ 0 < k := by omega
              have n1' : decide (0 < k) = false := decide_eq_false n0'
              clear hk0 hIw hAt hB
              go_wp2_with fail
              go_roundw
              case rel => exact ⟨k + 1, A.set X ((j : Int) + 1), by go_num, by omega, HA1, hO2, hB2⟩
              case measure => simp [intOf]; omega
            · obtain ⟨yy, hy⟩ : ∃ yy, o[k - 1]? = some yy := ⟨_, List.getElem?_eq_getElem (by rw [HLo.out]; omega)⟩
              have ey := hIw.get hy
              have hyx : yy < (X : Int) := by
                obtain ⟨a1', e1'⟩ := List.getElem?_eq_some_iff.1 hy
                obtain ⟨a2', e2'⟩ := List.getElem?_eq_some_iff.1 HD.out.1
                have := List.pairwise_iff_getElem.1 HD.out.2 (k - 1) k a1' a2' (by omega)
                rw [e1', e2'] at this; exact this
              have v6 : ¬ (X : Int) ≤ yy := by omega
              have n0' : 0 < k := by omega
              have n1' : decide (0 < k) = true := decide_eq_true n0'
              have hw1' : IntKind.i64.wrap ((k : Int) - 1) = (k : Int) - 1 := by rw [IntKind.wrap_i64]; have := hIo0.cap; have := hIo0.mx; unfold maxLen at this; omega
              have u8' : (1 : Int) ≤ (k : Int) := by omega
              have u9' : (k : Int) ≤ (cn : Int) := by omega
              have u0' : (0 : Int) ≤ (k : Int) - 1 := by omega
              have u1' : (k : Int) - 1 < (cn : Int) := by omega
              have u2' : ((k : Int) - 1).toNat = k - 1 := by omega
              clear hk0 hIw hAt hB hy hyx
              go_wp2_with fail
              go_roundw
              case rel => exact ⟨k + 1, A.set X ((j : Int) + 1), by go_num, by omega, HA1, hO2, hB2⟩
              case measure => simp [intOf]; omega
          · obtain rfl : cn = k := by omega
            have HN : Hid (A.length = N ∧ AtI N O (j + 1) 0 A) := Lib.hid ⟨HA.out.1, by
              have := HA.out.2
              rw [← HLo.out] at this
              exact this.next HO.out.1⟩
            go_wp2_with fail
            go_roundw
            case rel => exact ⟨j + 1, A, by go_num, by omega, HN, hAt, hB⟩
            case measure => simp [intOf]; omega
    · obtain rfl : on = j := by omega
      have HF2 : Hid (A.length = N ∧ ∀ x, x < N → ∃ (j : Nat) (o : List Int), O[j]? = some o ∧ (x : Int) ∈ o ∧ A[x]? = some ((j : Int) + 1)) := Lib.hid ⟨HA.out.1, fun x hx => by
        have h2 := HA.out.2
        rw [← HON.out] at h2
        exact h2.final HOF.out hx⟩
      have hIA := own_ints hAt HA.out.1
      have hBW : Below W.heap.size W wr := hB1.on hB
      have hRLw := hRL.below hB
      have hROw := hRO.below hB
      have hmb := make_boolsP N (by omega)
      clear hAt HA hlt hj hB
      obtain ⟨w5, hw5⟩ : ∃ w5, w5 = wr := ⟨_, rfl⟩
      rw [← hw5] at hIA hBW hRLw hROw
      go_wp2_with fail
      rw [← hw5]
      clear hw5
      go_loopw [145] (fun i wr => ∃ x : Nat, i = .int .i64 x ∧ x ≤ N ∧ Below w5.heap.size w5 wr) (fun i _ => N - (intOf i).toNat)
      case atStart => exact ⟨0, rfl, by omega, Below.refl _ _⟩
      case round =>
        obtain ⟨x, rfl, hx, hBx⟩ := hrel
        by_cases hlx : x < N
        · obtain ⟨j, o, ho, hxo, hAx⟩ := HF2.out.2 x hlx
          have ex := (hIA.below hBx).get hAx
          rw [Nat.zero_add] at ex
          have hjn : j < on := by rw [← HON.out]; exact (List.getElem?_eq_some_iff.1 ho).1
          have HJ := Lib.hid (And.intro ho (And.intro hxo hAx))
          have s0 : (0 : Int) ≤ (x : Int) := by omega
          have s1 : (x : Int) < (N : Int) := by omega
          have s2 : (((j : Int) + 1) == 0) = false := by simp; omega
          have s3 : ¬ (j : Int) + 1 = 0 := by omega
          clear ho hxo hAx
          go_wp2_with fail
          go_region
          have hbx := (Box.new wr (flagsP N []) 4).drewN 1
          have hal : Below wr.heap.size wr (wr.alloc (.cells (flagsP N []) 4)).drew := ((Below.refl _ _).alloc (Nat.le_refl _) _).drew
          obtain ⟨mb, hmb2⟩ : ∃ mb, wr.heap.size = mb := ⟨_, rfl⟩
          obtain ⟨w6, hw6⟩ : ∃ w6, (wr.alloc (.cells (flagsP N []) 4)).drew = w6 := ⟨_, rfl⟩
          have hbx2 : Box w6 mb (flagsP N ((L.take 0).map fun p => ((ap p x : Nat) : Int))) 4 := by rw [← hw6, ← hmb2]; exact hbx
          have hB6 : Below w5.heap.size w5 w6 := by rw [← hw6]; exact hBx.on hal
          have hm5 : w5.heap.size ≤ mb := by rw [← hmb2]; exact hBx.size
          have HC0 : Hid (0 = (bring (L.take 0) x x).length) := Lib.hid rfl
          rw [hw6, hmb2]
          clear hw6 hmb2 hbx hal hBx ex hmb
          go_wp2_with fail
          go_loopw [15, 157] (fun f i wy => ∃ (q cnt : Nat), i = .int .i64 q ∧ f = .int .i64 cnt ∧ q ≤ ln ∧ cnt ≤ q ∧ Hid (cnt = (bring (L.take q) x x).length) ∧ Box wy mb (flagsP N ((L.take q).map fun p => ((ap p x : Nat) : Int))) 4 ∧ Below w5.heap.size w5 wy) (fun _ i _ => ln - (intOf i).toNat)
          case atStart => exact ⟨0, 0, rfl, rfl, by omega, by omega, HC0, hbx2, hB6⟩
          case round =>
            clear HC0 hbx2 hB6
            obtain ⟨q, cnt, rfl, rfl, hq, hcq, HC, hbx, hBy⟩ := hrel
            by_cases hlq : q < ln
            · obtain ⟨p, hp⟩ := hRLw.has hlq
              obtain ⟨lb, lo, rfl, hlb⟩ := hRLw.at' (by omega)
              obtain ⟨pa, pn, pc, ep5, hIp5⟩ := hRLw.get hp
              have ep := (hBy.cell (p := ⟨lb, lo + q, none⟩) hlb).trans ep5
              have hIp := hIp5.below hBy
              have hpo : okPerm p N := HCL.out.ok HG.out p (List.mem_of_getElem? hp)
              have hpn : pn = N := by rw [← hIp.len, hpo.len]
              obtain rfl : N = pn := hpn.symm
              obtain ⟨pb, po, rfl, hpb⟩ := hIp5.at' (by omega)
              have hpm : ¬ pb = mb := by omega
              have ev := hIp.get (hpo.get hlx).1
              have hyN : ap p x < N := hpo.lt hlx
              have hcy : Conn gens x (ap p x) := reach_conn HG.out ((HCL.out.mem p).1 (List.mem_of_getElem? hp)) hlx
              have hAy := mark_same HOF.out HG.out HF2.out.2 HJ.out.1 HJ.out.2.1 hlx hyN hcy
              have ey := (hIA.below hBy).get hAy
              have ex := (hIA.below hBy).get HJ.out.2.2
              rw [Nat.zero_add] at ex ey
              have HP := Lib.hid (And.intro hp hpo)
              obtain ⟨Y, hY⟩ : ∃ Y, ap p x = Y := ⟨_, rfl⟩
              have HY := Lib.hid hY
              rw [hY] at ev hyN ey
              have d1 := hbx.cell Y
              rw [flagsP_get _ _ hyN] at d1
              have gf := hbx.frozen Y
              have hset : ∀ k, Box ((wr.drewN k).setCell ⟨mb, Y, none⟩ (.bool true)) mb (flagsP N ((L.take q).map (fun p => ((ap p x : Nat) : Int)) ++ [(Y : Int)])) 4 := fun k => by
                have := (hbx.drewN k).set Y (.bool true)
                rw [flagsP_set _ _ hyN] at this
                exact this
              have HT : Hid ((L.take (q + 1)).map (fun p => ((ap p x : Nat) : Int)) = (L.take q).map (fun p => ((ap p x : Nat) : Int)) ++ [(Y : Int)] ∧ (bring (L.take (q + 1)) x x).length = (bring (L.take q) x x).length + if Y = x then 1 else 0) := Lib.hid (by
                rw [List.take_add_one, hp]
                refine ⟨by simp [hY], ?_⟩
                unfold bring
                rw [List.filter_append, List.length_append]
                by_cases e : Y = x <;> simp [hY, e])
              rw [← HT.out.1] at hset
              have hB7 : ∀ k, Below w5.heap.size w5 ((wr.drewN k).setCell ⟨mb, Y, none⟩ (.bool true)) := fun k => (below_drewN hBy k).setCell (p := ⟨mb, Y, none⟩) hm5 (.bool true)
              have s4 : (0 : Int) ≤ (q : Int) := by omega
              have s5 : (q : Int) < (ln : Int) := by omega
              have v0 : ¬ (Y : Int) < 0 := by omega
              have v1 : ¬ (N : Int) ≤ (Y : Int) := by omega
              have v2 : (0 : Int) ≤ (Y : Int) := by omega
              have v3 : (Y : Int) < (N : Int) := by omega
              have HS := Lib.hid (And.intro hset hB7)
              have q1 : decide ((Y : Int) < 0) = false := decide_eq_false v0
              have q2 : decide (N ≤ Y) = false := decide_eq_false (by omega)
              have q3 : ((N : Int) != (N : Int)) = false := by simp
              have q4 : (((j : Int) + 1) != (j : Int) + 1) = false := by simp
              have t0 : IntKind.i64.wrap ((cnt : Int) + 1) = (cnt : Int) + 1 := by rw [IntKind.wrap_i64]; have := hRLw.cap; have := hRLw.mx; unfold maxLen at this; omega
              have t1 : IntKind.i64.wrap ((q : Int) + 1) = (q : Int) + 1 := by rw [IntKind.wrap_i64]; have := hRLw.cap; have := hRLw.mx; unfold maxLen at this; omega
              clear hp hpo hY hset hB7 hbx hIp hIp5 ep5 hpb hlb hcy hAy hpn
              by_cases hYx : Y = x
              · have HX2 := Lib.hid hYx
                have r0 : ((Y : Int) == (x : Int)) = true := by rw [hYx]; simp
                clear hYx
                go_wp2_with fail
                go_quiet (fail)
                go_wp2_with fail
                go_roundw
                case rel => exact ⟨q + 1, cnt + 1, by go_num, by go_num, by omega, by omega, Lib.hid (by rw [HT.out.2, ← HC.out, if_pos HX2.out]), HS.out.1 _, HS.out.2 _⟩
                case measure => simp [intOf]; omega
              · have HX2 := Lib.hid hYx
                have r0 : ((Y : Int) == (x : Int)) = false := by simp; omega
                clear hYx
                go_wp2_with fail
                go_quiet (fail)
                go_wp2_with fail
                go_roundw
                case rel => exact ⟨q + 1, cnt, by go_num, rfl, by omega, by omega, Lib.hid (by rw [HT.out.2, ← HC.out, if_neg HX2.out]; rfl), HS.out.1 _, HS.out.2 _⟩
                case measure => simp [intOf]; omega
            · obtain rfl : ln = q := by omega
              have ex := (hIA.below hBy).get HJ.out.2.2
              rw [Nat.zero_add] at ex
              obtain ⟨rb, ro, rfl, hrb⟩ := hROw.at' (by omega)
              obtain ⟨ca, cn, cc, eo, hIo⟩ := (hROw.below hBy).get HJ.out.1
              have w0 : IntKind.i64.wrap ((j : Int) + 1 - 1) = (j : Int) := by rw [IntKind.wrap_i64]; omega
              have w1' : (j : Int) + 1 - 1 = (j : Int) := by omega
              have w2' : (0 : Int) ≤ (j : Int) := by omega
              have w3' : (j : Int) < (on : Int) := by omega
              have HIo := Lib.hid hIo
              have HLn := Lib.hid hIo.len
              have hcnb : cn ≤ 9223372036854775807 := by
                have h1 := hIo.cap
                have h2 := hIo.mx
                unfold maxLen at h2
                omega
              obtain ⟨r, hrN, hor, _⟩ := HOF.out.has j o HJ.out.1
              have HR := Lib.hid hor
              have hxr : Conn gens r x := by
                obtain ⟨z, hz, hzc⟩ := (mem_orbL HG.out hrN _).1 (by rw [← hor]; exact HJ.out.2.1)
                obtain rfl : x = z := by omega
                exact hzc
              have hstab := orb_stab HG.out HCL.out hlx (o.map Int.toNat) (by
                rw [hor]
                refine nodup_map_inj ((orbL_lt N gens r).imp fun h => by omega) fun a ha b hb e => ?_
                obtain ⟨a', rfl, _⟩ := (mem_orbL HG.out hrN _).1 ha
                obtain ⟨b', rfl, _⟩ := (mem_orbL HG.out hrN _).1 hb
                simp at e; omega) (fun y => by
                rw [hor]
                constructor
                · intro h
                  obtain ⟨z, hz, rfl⟩ := List.mem_map.1 h
                  obtain ⟨y', rfl, hc⟩ := (mem_orbL HG.out hrN _).1 hz
                  exact (hxr.symm HG.out hrN).trans (by simpa using hc)
                · intro h
                  exact List.mem_map.2 ⟨(y : Int), (mem_orbL HG.out hrN _).2 ⟨y, rfl, hxr.trans h⟩, by simp⟩)
              rw [List.length_map, HLn.out, HLN.out] at hstab
              have hC := HC.out
              rw [List.take_of_length_le (by rw [HLN.out]; exact Nat.le_refl _)] at hC
              rw [← hC] at hstab
              have HST := Lib.hid hstab
              have hcnt : 0 < cnt := hstab.2
              have hrN' : r < N := hrN
              clear hIo hor hxr hstab hC hrN
              go_wp2_with fail
              go_loop [219] (fun i => ∃ t : Nat, i = .int .i64 t ∧ t ≤ cn) (fun i => cn - (intOf i).toNat)
              case atStart => exact ⟨0, rfl, by omega⟩
              case round =>
                obtain ⟨t, rfl, ht⟩ := hrel
                by_cases hlt : t < cn
                · obtain ⟨yy, hyy⟩ : ∃ yy, o[t]? = some yy := ⟨_, List.getElem?_eq_getElem (by rw [HLn.out]; exact hlt)⟩
                  obtain ⟨Y, rfl, hYc⟩ := (mem_orbL HG.out hrN' yy).1 (by rw [← HR.out]; exact List.mem_of_getElem? hyy)
                  have hYN : Y < N := hYc.lt HG.out hrN'
                  have hxY : Conn gens x Y := by
                    obtain ⟨z, hz, hzc⟩ := (mem_orbL HG.out hrN' _).1 (by rw [← HR.out]; exact HJ.out.2.1)
                    obtain rfl : x = z := by omega
                    exact (hzc.symm HG.out hrN').trans hYc
                  obtain ⟨_, p, hpL, hpe⟩ := bring_eq HG.out HCL.out hlx hxY
                  obtain ⟨cb, co, rfl, hcb⟩ := HIo.out.at' (by omega)
                  have ey := HIo.out.get hyy
                  have d1 := hbx.cell Y
                  rw [flagsP_get _ _ hYN, decide_eq_true (by
                    rw [List.take_of_length_le (by rw [HLN.out]; exact Nat.le_refl _)]
                    exact List.mem_map.2 ⟨p, hpL, by rw [hpe]⟩)] at d1
                  have v0 : (0 : Int) ≤ (t : Int) := by omega
                  have v1 : (t : Int) < (cn : Int) := by omega
                  have v2 : (0 : Int) ≤ (Y : Int) := by omega
                  have v3 : (Y : Int) < (N : Int) := by omega
                  clear hyy hYc hxY hpL hpe hbx ex eo w0 w1' w2' w3'
                  go_wp2_with fail
                  go_round
                  case rel => exact ⟨t + 1, by go_num, by omega⟩
                  case measure => simp [intOf]; omega
                · obtain rfl : cn = t := by omega
                  have z0 : ((cnt : Int) == 0) = false := by simp; omega
                  have z1 : IntKind.i64.wrap ((cnt : Int) * (cn : Int)) = (ln : Int) := by
                    have e : ((ln : Nat) : Int) = (cn : Int) * (cnt : Int) := by rw [HST.out.1]; simp
                    rw [Int.mul_comm, ← e, IntKind.wrap_i64]
                    have h1 := hRLw.cap
                    have h2 := hRLw.mx
                    unfold maxLen at h2
                    omega
                  have z2 : ((ln : Int) != (ln : Int)) = false := by simp
                  clear hbx ex eo w0 w1' w2' w3'
                  go_wp2_with fail
                  go_roundw
                  case rel => exact ⟨x + 1, by go_num, by omega, hBy⟩
                  case measure => simp [intOf]; omega
        · obtain rfl : N = x := by omega
          go_wp2_with fail
          go_ret
          exact ⟨rfl, hBW.on hBx⟩
set_option maxRecDepth 100000 in
set_option maxHeartbeats 2000000 in
theorem lifted (os : Os) (started : os.Started) (H : Type) (enc : TypeId × Value → H) :
    ReturnsInHanded {} Try.checked os 7 .any (Rows.permsOrbitsSpec.pre6 enc Try.prog Try.f7 Rows.permsOrbitsRow.domain false) (Rows.permsOrbitsSpec.post enc Try.prog Try.f7 false true false false) := by
  refine returnsInHanded_of_change (C := Try.checked) row_own started (by kernel_rfl) Try.func7
    (ChangeSpec.witness6 (enc := enc) (C := Try.checked) false ⟨#[], #[.int .i64 0, .slice none 0 0], []⟩ 8 (by kernel_rfl) (by kernel_rfl) (by kernel_rfl) (by kernel_rfl)) ?_
  intro W base args ds gs before hval0 hW _ _
  have hval : ∀ (j : Nat) t v, Try.f7.params[j]? = some t → args[j]? = some v → Value.okWide Try.prog W .any base t v := hval0
  have hW' := hW
  obtain ⟨p, q, hA0, hV, rfl, _, _⟩ := hW
  have hA : DataW.TrodAll enc Try.prog W 0 (fun _ => true) true Try.f7.params.toList args.toList ds p := hA0
  rw [Try.params7] at hA hval
  obtain ⟨v0, v1, d0, d1, p0, p1, rfl, rfl, rfl, h0, h1⟩ := trodAll_two hA
  obtain ⟨rfl, rfl⟩ := trodVars_none hV
  obtain ⟨n, rfl, rfl, rfl, _⟩ := open_int Try.underlying3 (hval 0 3 v0 rfl rfl) h0
  obtain ⟨a1, n1, c1, ll1, rfl, h1', _⟩ := open_LL (hval 1 31 v1 rfl rfl) h1
  refine (lawOrb_any n a1 n1 c1 ll1 W h1').mono fun e W' ⟨he, hb⟩ => ?_
  subst he
  exact ⟨_, rfl, law_post hW' rfl rfl (by kernel_rfl) rfl hb⟩
set_option maxHeartbeats 2000000 in
theorem permsOrbits_closed : joinedFacts Try.prog 7 Try.f7 Rows.permsOrbitsSpec Rows.permsOrbitsRow = true := by
  unfold joinedFacts
  refine bt (bt (bt (bt (bt (bt (bt (bt (bt (bt (bt (bt (bt (bt (bt (bt (bt (bt (bt (bt (bt (bt (bt (bt (bt (bt (bt (bt (bt (bt (bt ?a0 ?a1) ?a2) ?a3) ?a4) ?a5) ?a6) ?a7) ?a8) ?a9) ?a10) ?a11) ?a12) ?a13) ?a14) ?a15) ?a16) ?a17) ?a18) ?a19) ?a20) ?a21) ?a22) ?a23) ?a24) ?a25) ?a26) ?a27) ?a28) ?a29) ?a30) ?a31
  case a25 => exact prog_enter
  case a26 => exact prog_lifts
  case a27 => exact prog_make
  all_goals as_aux_lemma => kernel_rfl
theorem permsOrbits_holds : Rows.PermsOrbitsSaid :=
  OpenClaim.holds_of_wide 7 Try.f7 rfl rfl rfl rfl rfl rfl rfl ⟨rfl, rfl, rfl, rfl, rfl⟩ rfl rfl rfl rfl rfl (by kernel_rfl) Try.func7 permsOrbits_closed
    (of_decide_eq_true (by kernel_rfl)) (by unfold Func.isWrapper; rw [if_neg (of_decide_eq_false (by kernel_rfl))]; exact ⟨rfl, rfl⟩)
    (fun os started H enc _ => lifted os started H enc)
#print axioms permsOrbits_holds
end Go.Proofs.Ytkekkbbdhdamjaa
