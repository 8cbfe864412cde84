/- A closure is a group, and that of some of the generators is a part of it (law11.PermsClosed), at every input. -/
import Derived.Test.YtkekkbbdhdamjaaPClosed
import Derived.WalkKit
import Derived.WalkSpells
import Derived.WalkLawsBesides
import Derived.Deep.LoopGhost
import Derived.Deep.QuietTactic
import Derived.BigQuiet
import Derived.StillTailTactics
import Derived.Lib.Hide
import Derived.Outline
import Derived.Lib.QuietBelow
namespace Go.Proofs.Ytkekkbbdhdamjaa
open Go.ChangeShapes Go.WideShapes Go.ChangeAt Go.RowKit Go.Deep

theorem Rows.part {w : World} {a : Option Addr} {n c : Nat} {ll : List (List Int)} (h : Rows w a n c ll) {k : Nat} (hk : k ≤ n) : Rows w a k c (ll.take k) :=
  ⟨by rw [List.length_take, h.len]; omega, Nat.le_trans hk h.cap, h.mx, fun h0 => h.at' (by omega), fun b o e i hi => by
    obtain ⟨ai, ni, ci, hc, hI⟩ := h.row b o e i (by omega)
    refine ⟨ai, ni, ci, hc, ?_⟩
    rw [List.getElem?_take, if_pos hi]; exact hI⟩
theorem inv_okP {a0 : Option Addr} {n c0 : Nat} {l : List Int} {W w0 : World} (hl : okPerm l n) (hn : n ≤ 256) (hW : Below w0.heap.size w0 W) (h0 : Ints W a0 n c0 l) :
    Calls Try.prog 13 #[.slice a0 n c0] W fun e w' => ∃ xa xc, e = .returned (.tuple #[.slice xa n xc, .int .i64 0]) ∧ Ints w' xa n xc (invP l n) ∧ Below W.heap.size W w' ∧ Below w0.heap.size w0 w' := by
  refine (inverse_any a0 n c0 l W h0).mono ?_
  rintro e w' hr
  obtain ⟨xa, xn, xc, rfl, hX, hA⟩ := hr.out
  have hc : invB l = true := by unfold invB; rw [hl.len, permB_iff.2 hl]; simp [hn]
  have e1 : invLL l = invP l n := by unfold invLL; rw [if_pos hc, hl.len]
  have e2 : invE l = 0 := by unfold invE; rw [if_pos hc]
  rw [e1] at hX
  have : xn = n := by rw [← hX.len, (inv_ok hl).len]
  subst this
  exact ⟨xa, xc, by rw [e2], hX, hA, hW.on hA⟩

theorem pick_some (s : Int) (m : Nat) (hm : m ≤ 6) : ∃ k : Nat, k ≤ m ∧ wrap64 ((IntKind.u64.wrap s).tmod ((m : Int) + 1)) = (k : Int) := by
  have h0 : 0 ≤ IntKind.u64.wrap s := by rw [IntKind.wrap_u64]; omega
  obtain ⟨z, hz⟩ : ∃ z, IntKind.u64.wrap s = z := ⟨_, rfl⟩
  rw [hz] at h0 ⊢
  rw [Int.tmod_eq_emod_of_nonneg h0]
  have h1 := Int.emod_nonneg z (show ((m : Int) + 1) ≠ 0 by omega)
  have h2 := Int.emod_lt_of_pos z (show (0 : Int) < (m : Int) + 1 by omega)
  refine ⟨(z % ((m : Int) + 1)).toNat, by omega, ?_⟩
  obtain ⟨y, hy⟩ : ∃ y, z % ((m : Int) + 1) = y := ⟨_, rfl⟩
  rw [hy] at h1 h2 ⊢
  unfold wrap64
  omega
theorem clo_bad {n : Int} {gens : List (List Int)} (h : closE n gens ≠ 0) : closR n gens = [] := by
  unfold closE at h; unfold closR
  by_cases hv : validE n gens ≠ 0
  · rw [if_pos hv]
  · rw [if_neg hv] at h ⊢
    cases e : bfsL n.toNat gens with
    | none => rfl
    | some L => rw [e] at h; exact absurd rfl h
theorem clo_good {n : Int} {gens : List (List Int)} (h : closE n gens = 0) : ∃ N : Nat, n = (N : Int) ∧ N ≤ 256 ∧ (∀ g ∈ gens, okPerm g N) ∧ CloL N gens (closR n gens) ∧ Inc (closR n gens) := by
  unfold closE at h
  by_cases hv : validE n gens ≠ 0
  · rw [if_pos hv] at h; exact absurd h hv
  · have hv0 : validE n gens = 0 := by omega
    obtain ⟨h1, h2, h3, h4⟩ := validE_zero hv0
    obtain ⟨N, rfl⟩ : ∃ N : Nat, n = (N : Int) := ⟨n.toNat, by omega⟩
    rw [Int.toNat_natCast] at h4
    rw [if_neg hv, Int.toNat_natCast] at h
    unfold closR
    rw [if_neg hv, Int.toNat_natCast]
    cases e : bfsL N gens with
    | none => rw [e] at h; cases h
    | some L => exact ⟨N, rfl, by omega, h4, (CloL.of h4 e).sort, sortP_inc (CloL.of h4 e).nd⟩
theorem clo_part {N : Nat} {gens hens L : List (List Int)} (hN : N ≤ 256) (hl : hens.length ≤ 1024) (hg : ∀ g ∈ gens, okPerm g N) (hL : CloL N gens L) (hs : ∀ g ∈ hens, g ∈ gens) : closE (N : Int) hens = 0 ∧ CloL N hens (closR (N : Int) hens) := by
  obtain ⟨M, hM, hC⟩ := hL.part hg hs
  have hv : validE (N : Int) hens = 0 := by
    unfold validE
    rw [if_neg (by omega), if_neg (by omega), Int.toNat_natCast, if_pos (List.all_eq_true.2 fun g h => permB_iff.2 (hg g (hs g h)))]
  unfold closE closR
  rw [if_neg (by simp [hv]), if_neg (by simp [hv]), Int.toNat_natCast, hM]
  exact ⟨rfl, hC.sort⟩

set_option maxRecDepth 20000 in
set_option maxHeartbeats 4000000 in
theorem lawClosed_any (n : Int) (a1 : Option Addr) (m1 c1 : Nat) (gens : List (List Int)) (s : Int) (W : World) (h1 : Rows W a1 m1 c1 gens) :
    Calls Try.prog 6 #[.int .i64 n, .slice a1 m1 c1, .int .i64 s] W fun e w' => e = .returned (.bool true) ∧ Below W.heap.size W w' := by
  by_cases hn : n < 0
  · go_enter Try.func6, Try.ntmps6
    go_wp2_with fail
    refine (sane11_any _).mono ?_
    rintro e w1 ⟨rfl, hB1⟩
    go_wp2_with fail
    go_ret
    exact ⟨rfl, hB1⟩
  cases hf : fewB n gens
  · have HF := Lib.hid hf
    clear hf
    go_enter Try.func6, Try.ntmps6
    go_wp2_with fail
    refine (sane11_any _).mono ?_
    rintro e w1 ⟨rfl, hB1⟩
    go_wp2_with fail
    have hc := few_any n a1 m1 c1 gens w1 (h1.below hB1)
    rw [HF.out] at hc
    refine hc.mono ?_
    rintro e w2 ⟨rfl, rfl⟩
    clear hc
    go_wp2_with fail
    go_ret
    exact ⟨rfl, hB1⟩
  have HF := Lib.hid hf
  have hm1 : m1 ≤ 6 := by
    unfold fewB at hf
    simp only [Bool.and_eq_true, decide_eq_true_eq] at hf
    rw [← h1.len]; exact hf.2.2
  clear hf
  by_cases he : closE n gens = 0
  rotate_left
  · have hR := Lib.hid (clo_bad he)
    obtain ⟨ce, hce⟩ : ∃ ce, closE n gens = ce := ⟨_, rfl⟩
    have HE := Lib.hid hce
    have hne : (ce != 0) = true := by rw [← hce]; simpa using he
    clear he hce
    go_enter Try.func6, Try.ntmps6
    go_wp2_with fail
    refine (sane11_any _).mono ?_
    rintro e w1 ⟨rfl, hB1⟩
    go_wp2_with fail
    have hc := few_any n a1 m1 c1 gens w1 (h1.below hB1)
    rw [HF.out] at hc
    refine hc.mono ?_
    rintro e w2 ⟨rfl, rfl⟩
    clear hc
    go_wp2_with fail
    refine (closure_any n a1 m1 c1 gens w2 (h1.below hB1)).mono ?_
    rintro e w3 ⟨la, ln, lc, rfl, hL, hA⟩
    rw [HE.out]
    rw [hR.out] at hL
    obtain rfl : 0 = ln := hL.len
    clear hL
    replace hB1 := hB1.on hA
    clear hA
    go_wp2_with fail
    go_ret
    exact ⟨rfl, hB1⟩
  obtain ⟨N, rfl, hN, hg, hCL, hInc⟩ := clo_good he
  have HE := Lib.hid he
  have HG := Lib.hid hg
  obtain ⟨L, hLe⟩ : ∃ L, closR (N : Int) gens = L := ⟨_, rfl⟩
  rw [hLe] at hCL hInc
  have HLe := Lib.hid hLe
  have HCL := Lib.hid hCL
  have HI := Lib.hid hInc
  have HL1 := Lib.hid h1.len
  have hNN : ¬ (256 : Int) < (N : Int) := by omega
  obtain ⟨ln, hln⟩ : ∃ ln, L.length = ln := ⟨_, rfl⟩
  have HLN := Lib.hid hln
  have hle : ln ≤ 4096 := by rw [← hln]; exact hCL.le
  have hpos : 0 < ln := by rw [← hln]; exact List.length_pos_of_mem hCL.id
  have q0 : ((ln : Int) == 0) = false := by simp; omega
  have q1 : ¬ (4096 : Int) < (ln : Int) := by omega
  clear he hg hLe hCL hInc hln
  go_enter Try.func6, Try.ntmps6
  go_wp2_with fail
  refine (sane11_any _).mono ?_
  rintro e w1 ⟨rfl, hB1⟩
  go_wp2_with fail
  have hc := few_any N a1 m1 c1 gens w1 (h1.below hB1)
  rw [HF.out] at hc
  refine hc.mono ?_
  rintro e w2 ⟨rfl, rfl⟩
  clear hc
  go_wp2_with fail
  refine (closure_any N a1 m1 c1 gens w2 (h1.below hB1)).mono ?_
  rintro e w3 ⟨la, ln', lc, rfl, hL, hA⟩
  rw [HE.out]
  rw [HLe.out] at hL
  obtain rfl : ln' = ln := by rw [← hL.len, HLN.out]
  replace hB1 := hB1.on hA
  clear hA
  go_wp2_with fail
  refine (closed_any N a1 la m1 c1 ln' lc gens L w3 (h1.below hB1) hL hN HG.out HCL.out HI.out).mono ?_
  rintro e w4 ⟨rfl, hA⟩
  replace hL := hL.below hA
  replace hB1 := hB1.on hA
  clear hA
  go_wp2_with fail
  obtain ⟨wo, hwo⟩ : ∃ wo, wo = w4 := ⟨_, rfl⟩
  rw [← hwo] at hL hB1 ⊢
  clear hwo
  go_loopw [64] (fun i wr => ∃ j : Nat, i = .int .i64 j ∧ j ≤ ln' ∧ Below wo.heap.size wo wr) (fun i _ => ln' - (intOf i).toNat)
  case atStart => exact ⟨0, rfl, by omega, Below.refl _ _⟩
  case round =>
    obtain ⟨j, rfl, hj, hBo⟩ := hrel
    by_cases hltj : j < ln'
    · obtain ⟨p, hp⟩ := hL.has hltj
      obtain ⟨b, o, rfl, hb⟩ := hL.at' (by omega)
      obtain ⟨pa, pn, pc, ep, hIp⟩ := (hL.below hBo).get hp
      have HPO : Hid (okPerm p N ∧ invP p N ∈ L) := Lib.hid ⟨HCL.out.ok HG.out p (List.mem_of_getElem? hp), HCL.out.inv HG.out p (List.mem_of_getElem? hp)⟩
      have hpn : pn = N := by rw [← hIp.len, HPO.out.1.len]
      obtain rfl : N = pn := hpn.symm
      clear hpn hp hb
      have s2 : (0 : Int) ≤ (j : Int) := by omega
      have s3 : (j : Int) < (ln' : Int) := by omega
      go_wp2_with fail
      refine (inv_okP HPO.out.1 hN hBo hIp).mono ?_
      rintro e w5 ⟨xa, xc, rfl, hIx, hA, hBo⟩
      clear hA ep hIp
      go_wp2_with fail
      refine (find_true (some ⟨b, o, none⟩) xa ln' lc N xc L (invP p N) w5 (hL.below hBo) hIx (by omega) HI.out HPO.out.2).mono ?_
      rintro e w6 ⟨z3, rfl, hA⟩
      replace hBo := hBo.on hA
      clear hA hIx
      go_wp2_with fail
      go_roundw
      case rel => exact ⟨j + 1, by go_num, by omega, hBo⟩
      case measure => simp [intOf]; omega
    · obtain rfl : ln' = j := by omega
      obtain ⟨kk, hkk, e1⟩ := pick_some s m1 hm1
      have hcp := h1.cap
      have g0 : (0 : Int) ≤ (kk : Int) := by omega
      have g1 : (kk : Int) ≤ (c1 : Int) := by omega
      have hlt : (gens.take kk).length ≤ 1024 := by rw [List.length_take, HL1.out]; omega
      have HPT := Lib.hid (clo_part (hens := gens.take kk) hN hlt HG.out HCL.out (fun g hgm => List.mem_of_mem_take hgm))
      have HDV := Lib.hid (HCL.out.dvd HG.out HPT.out.2 (fun g hgm => List.mem_of_mem_take hgm))
      have h1k := (h1.below (hB1.on hBo)).part hkk
      clear hlt hcp
      go_wp2_with fail
      refine (closure_any N a1 kk c1 (gens.take kk) wr h1k).mono ?_
      rintro e w7 ⟨ma, mn, mc, rfl, hM, hA⟩
      rw [HPT.out.1]
      obtain ⟨M, hMe⟩ : ∃ M, closR (N : Int) (gens.take kk) = M := ⟨_, rfl⟩
      rw [hMe] at hM HPT HDV
      have HMN := Lib.hid hM.len
      have hmp : 0 < mn := by rw [← hM.len]; exact List.length_pos_of_mem HPT.out.2.id
      have hmle : mn ≤ 4096 := by rw [← hM.len]; exact HPT.out.2.le
      have hdv : mn ∣ ln' := by rw [← hM.len, ← HLN.out]; exact HDV.out.1
      have d0 : ln' % mn = 0 := Nat.mod_eq_zero_of_dvd hdv
      have d1 : (ln' : Int) % (mn : Int) = 0 := by rw [← Int.natCast_emod, d0]; rfl
      have d2 : (ln' : Int).tmod (mn : Int) = 0 := by rw [Int.tmod_eq_emod_of_nonneg (by omega)]; exact d1
      have d3 : ((mn : Int) == 0) = false := by simp; omega
      have d4 : ¬ (mn : Int) = 0 := by omega
      have d5 : ¬ mn = 0 := by omega
      replace hBo := hBo.on hA
      clear hA h1k hMe e1 g0 g1 hdv
      go_wp2_with fail
      obtain ⟨wp, hwp⟩ : ∃ wp, wp = w7 := ⟨_, rfl⟩
      rw [← hwp] at hM hBo ⊢
      clear hwp d0 d1 d2 d3 d4 d5
      go_loopw [119] (fun i wr => ∃ j : Nat, i = .int .i64 j ∧ j ≤ mn ∧ Below wp.heap.size wp wr) (fun i _ => mn - (intOf i).toNat)
      case atStart => exact ⟨0, rfl, by omega, Below.refl _ _⟩
      case round =>
        obtain ⟨j, rfl, hj, hBp⟩ := hrel
        by_cases hltj2 : j < mn
        · obtain ⟨p, hp⟩ := hM.has hltj2
          obtain ⟨b, o, rfl, hb⟩ := hM.at' (by omega)
          obtain ⟨pa, pn, pc, ep, hIp⟩ := (hM.below hBp).get hp
          have HPO : Hid (p ∈ L) := Lib.hid (HDV.out.2 p (List.mem_of_getElem? hp))
          clear hp hb
          have s2 : (0 : Int) ≤ (j : Int) := by omega
          have s3 : (j : Int) < (mn : Int) := by omega
          go_wp2_with fail
          refine (find_true la pa ln' lc pn pc L p wr ((hL.below hBo).below hBp) hIp (by omega) HI.out HPO.out).mono ?_
          rintro e w8 ⟨z3, rfl, hA⟩
          replace hBp := hBp.on hA
          clear hA hIp ep
          go_wp2_with fail
          go_roundw
          case rel => exact ⟨j + 1, by go_num, by omega, hBp⟩
          case measure => simp [intOf]; omega
        · obtain rfl : mn = j := by omega
          go_wp2_with fail
          go_ret
          exact ⟨rfl, (hB1.on hBo).on hBp⟩

set_option maxRecDepth 100000 in
set_option maxHeartbeats 2000000 in
theorem lifted (os : Os) (started : os.Started) (H : Type) (enc : TypeId × Value → H) :
    ReturnsInHanded {} Try.checked os 6 .any (Rows.permsClosedSpec.pre6 enc Try.prog Try.f6 Rows.permsClosedRow.domain false) (Rows.permsClosedSpec.post enc Try.prog Try.f6 false true false false) := by
  refine returnsInHanded_of_change (C := Try.checked) row_own started (by kernel_rfl) Try.func6
    (ChangeSpec.witness6 (enc := enc) (C := Try.checked) false ⟨#[], #[.int .i64 0, .slice none 0 0, .int .i64 0], []⟩ 8 (by kernel_rfl) (by kernel_rfl) (by kernel_rfl) (by kernel_rfl)) ?_
  intro W base args ds gs before hval0 hW _ _
  have hval : ∀ (j : Nat) t v, Try.f6.params[j]? = some t → args[j]? = some v → Value.okWide Try.prog W .any base t v := hval0
  have hW' := hW
  obtain ⟨p, q, hA0, hV, rfl, _, _⟩ := hW
  have hA : DataW.TrodAll enc Try.prog W 0 (fun _ => true) true Try.f6.params.toList args.toList ds p := hA0
  rw [Try.params6] at hA hval
  obtain ⟨v0, v1, v2, d0, d1, d2, p0, p1, p2, rfl, rfl, rfl, h0, h1, h2⟩ := trodAll_three hA
  obtain ⟨rfl, rfl⟩ := trodVars_none hV
  obtain ⟨n, rfl, rfl, rfl, _⟩ := open_int Try.underlying3 (hval 0 3 v0 rfl rfl) h0
  obtain ⟨a1, n1, c1, ll1, rfl, h1', _⟩ := open_LL (hval 1 31 v1 rfl rfl) h1
  obtain ⟨s, rfl, rfl, rfl, _⟩ := open_int Try.underlying3 (hval 2 3 v2 rfl rfl) h2
  refine (lawClosed_any n a1 n1 c1 ll1 s W h1').mono fun e W' ⟨he, hb⟩ => ?_
  subst he
  exact ⟨_, rfl, law_post hW' rfl rfl (by kernel_rfl) rfl hb⟩
set_option maxHeartbeats 2000000 in
theorem permsClosed_closed : joinedFacts Try.prog 6 Try.f6 Rows.permsClosedSpec Rows.permsClosedRow = true := by
  unfold joinedFacts
  refine bt (bt (bt (bt (bt (bt (bt (bt (bt (bt (bt (bt (bt (bt (bt (bt (bt (bt (bt (bt (bt (bt (bt (bt (bt (bt (bt (bt (bt (bt (bt ?a0 ?a1) ?a2) ?a3) ?a4) ?a5) ?a6) ?a7) ?a8) ?a9) ?a10) ?a11) ?a12) ?a13) ?a14) ?a15) ?a16) ?a17) ?a18) ?a19) ?a20) ?a21) ?a22) ?a23) ?a24) ?a25) ?a26) ?a27) ?a28) ?a29) ?a30) ?a31
  case a25 => exact prog_enter
  case a26 => exact prog_lifts
  case a27 => exact prog_make
  all_goals as_aux_lemma => kernel_rfl
theorem permsClosed_holds : Rows.PermsClosedSaid :=
  OpenClaim.holds_of_wide 6 Try.f6 rfl rfl rfl rfl rfl rfl rfl ⟨rfl, rfl, rfl, rfl, rfl⟩ rfl rfl rfl rfl rfl (by kernel_rfl) Try.func6 permsClosed_closed
    (of_decide_eq_true (by kernel_rfl)) (by unfold Func.isWrapper; rw [if_neg (of_decide_eq_false (by kernel_rfl))]; exact ⟨rfl, rfl⟩)
    (fun os started H enc _ => lifted os started H enc)
#print axioms permsClosed_holds
end Go.Proofs.Ytkekkbbdhdamjaa
