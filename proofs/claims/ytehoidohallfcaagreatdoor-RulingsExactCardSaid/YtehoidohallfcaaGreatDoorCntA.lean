/- Contract of ranking.counted. -/
import Derived.Test.YtehoidohallfcaaGreatDoorBMap
import Derived.Test.YtehoidohallfcaaGreatDoorPlM
import Derived.WalkKit
import Derived.WalkSpells
import Derived.WalkLawsBesides
import Derived.Deep.LoopGhost
import Derived.Deep.QuietTactic
import Derived.BigQuiet
import Derived.StillTailTactics
import Derived.Lib.Hide
import Derived.Outline
import Derived.Lib.QuietBelow
namespace Go.Proofs.YtehoidohallfcaaGreatDoor
open Go.RowKit

/-- The competitors that were met. -/
def Met (l : List Rs) (p : Int) (k : Nat) (ks : List Int) : Prop := ∀ c, c ∈ ks ↔ ∃ j, j < k ∧ (l.getD j R0).rt = true ∧ (l.getD j R0).pz = p ∧ (l.getD j R0).cm = c
theorem met_start (l : List Rs) (p : Int) : Met l p 0 [] := fun c => by simp
theorem getD_of {l : List Rs} {k : Nat} {x : Rs} (hx : l[k]? = some x) : l.getD k R0 = x := by rw [List.getD_eq_getElem?_getD, hx]; rfl
theorem Met.cnt {l : List Rs} {p : Int} {k : Nat} {ks : List Int} {x : Rs} (h : Met l p k ks) (hx : l[k]? = some x) : cntB l p k = (x.rt && decide (x.pz = p) && !decide (x.cm ∈ ks)) := by
  unfold cntB
  rw [getD_of hx]
  congr 1
  rw [Bool.eq_iff_iff, List.all_eq_true, Bool.not_eq_true', decide_eq_false_iff_not, h x.cm]
  constructor
  · rintro h1 ⟨j, hj, a, b, c⟩
    have := h1 j (List.mem_range.2 hj)
    rw [a, decide_eq_true b, decide_eq_true c] at this
    cases this
  · intro h1 j hj
    rw [Bool.not_eq_true', Bool.eq_false_iff]
    intro h2
    simp only [Bool.and_eq_true, decide_eq_true_eq] at h2
    exact h1 ⟨j, List.mem_range.1 hj, h2.1.1, h2.1.2, h2.2⟩
theorem Met.skip {l : List Rs} {p : Int} {k : Nat} {ks : List Int} {x : Rs} (h : Met l p k ks) (hx : l[k]? = some x) (hn : x.rt = false ∨ x.pz ≠ p ∨ x.cm ∈ ks) : Met l p (k + 1) ks := fun c => by
  rw [h c]
  constructor
  · rintro ⟨j, hj, r⟩; exact ⟨j, by omega, r⟩
  · rintro ⟨j, hj, a, b, d⟩
    by_cases e : j = k
    · subst e
      rw [getD_of hx] at a b d
      rcases hn with hn | hn | hn
      · rw [hn] at a; cases a
      · exact absurd b hn
      · subst d; exact (h _).1 hn
    · exact ⟨j, by omega, a, b, d⟩
theorem Met.add {l : List Rs} {p : Int} {k : Nat} {ks : List Int} {x : Rs} (h : Met l p k ks) (hx : l[k]? = some x) (h1 : x.rt = true) (h2 : x.pz = p) (h3 : x.cm ∉ ks) : Met l p (k + 1) (if x.cm ∈ ks then ks else ks ++ [x.cm]) := fun c => by
  rw [if_neg h3, List.mem_append, h c, List.mem_singleton]
  constructor
  · rintro (⟨j, hj, r⟩ | rfl)
    · exact ⟨j, by omega, r⟩
    · exact ⟨k, by omega, by rw [getD_of hx]; exact ⟨h1, h2, rfl⟩⟩
  · rintro ⟨j, hj, a, b, d⟩
    by_cases e : j = k
    · subst e; rw [getD_of hx] at d; exact .inr d.symm
    · exact .inl ⟨j, by omega, a, b, d⟩
theorem cntTo_no {l : List Rs} {p : Int} {k : Nat} (h : cntB l p k = false) : cntTo l p (k + 1) = cntTo l p k := by rw [cntTo_succ, h]; simp
theorem cntTo_yes {l : List Rs} {p : Int} {k : Nat} (h : cntB l p k = true) : cntTo l p (k + 1) = cntTo l p k ++ [(k : Int)] := by rw [cntTo_succ, h]; simp
theorem cntTo_le (l : List Rs) (p : Int) : ∀ k : Nat, (cntTo l p k).length ≤ k
  | 0 => by simp [cntTo]
  | k + 1 => by
    have := cntTo_le l p k
    rw [cntTo_succ, List.length_append]
    split <;> simp <;> omega
theorem news1' (w : World) (x : Value) (t : TypeId) (s : Nat) (h : w.heap.size = s) : ∀ j u, [x][j]? = some u → (w.alloc (.cells #[x] t)).cell? ((⟨s, 0, none⟩ : Addr).add j) = some u := by subst h; exact cell_one_new w x t
set_option maxHeartbeats 2000000 in
set_option maxRecDepth 20000 in
theorem counted_any (al : Option Addr) (nl cl : Nat) (l : List Rs) (p : Int) (W : World) (h0 : SL encRs 6 W al nl cl l) (hn : nl ≤ 1000000) (hc : ∀ x ∈ l, 0 ≤ x.cm ∧ x.cm < 8) :
    Calls Tryz.prog 39 #[.slice al nl cl, .int .i64 p] W (RetOwn W 3 (cntL l p)) := by
  obtain ⟨i3, hi3, hz30, hz31, hz32⟩ := info_parts info_int
  have HL := Lib.hid h0.len
  have HC := Lib.hid hc
  have hbm := BMap.made kiV okI W
  have hmk := fun w => run_makeMap (P := Tryz.prog) 137 w
  clear hc
  go_enter Tryz.func39, Tryz.ntmps39
  go_wp2_with fail
  go_loopw [4, 11] (fun v4 i wr => ∃ (k : Nat) (ks : List Int), i = .int .i64 k ∧ k ≤ nl ∧ OwnInts wr (W.heap.size + 1) 3 v4 (cntTo l p k) ∧ BMap kiV okI wr W.heap.size ks ∧ Hid (Met l p k ks) ∧ Below W.heap.size W wr) (fun _ i _ => nl - (intOf i).toNat)
  case atStart => exact ⟨0, [], rfl, by omega, OwnInts.nil _ _ _, hbm, Lib.hid (met_start l p), (Below.refl _ _).alloc (Nat.le_refl _) _⟩
  case round =>
    rename_i v4
    obtain ⟨k, ks, rfl, hk, hO, hM, HM, hB⟩ := hrel
    have hbl := hM.lt
    by_cases hlt : k < nl
    rotate_left
    · obtain rfl : nl = k := by omega
      have HLL : Hid (cntTo l p nl = cntL l p) := Lib.hid (by unfold cntL; rw [HL.out])
      rw [HLL.out] at hO
      go_wp2_with fail
      go_ret
      exact ⟨_, rfl, hO.mono (by omega), hB⟩
    obtain ⟨b0, o0, rfl, hb0⟩ := h0.at' (by omega)
    obtain ⟨x, hX⟩ := h0.get hlt
    obtain ⟨e0, e1, e2, e3, e4, e5⟩ := (h0.below hB).rs6 hX
    have HX := Lib.hid hX
    have s0 : (0 : Int) ≤ (k : Int) := by omega
    have s1 : (k : Int) < (nl : Int) := by omega
    have hcx := HC.out x (List.mem_of_getElem? hX)
    have hok : okI x.cm := WalkArith.wf_i64 (by omega)
    have hCNT := HM.out.cnt hX
    have hbx := al0 wr #[.int .i64 x.cm, .int .i64 x.pz, .int .i64 x.tr, .int .i64 x.lo, .int .i64 x.hi, .bool x.rt] 53
    have hMx := hM.below hbx
    have hlk := hMx.look int_key x.cm hok
    simp only [kiV] at hlk
    have hOx := hO.below hbx
    have hBx := hB.on hbx
    have hr : Box (wr.alloc (.cells #[.int .i64 x.cm, .int .i64 x.pz, .int .i64 x.tr, .int .i64 x.lo, .int .i64 x.hi, .bool x.rt] 53)) wr.heap.size #[.int .i64 x.cm, .int .i64 x.pz, .int .i64 x.tr, .int .i64 x.lo, .int .i64 x.hi, .bool x.rt] 53 := Box.new _ _ _
    obtain ⟨r0, r1, r2, r3, r4, r5⟩ := hr.g6
    have hlr := hr.lt
    have HOX := Lib.hid hOx
    have HMX := Lib.hid hMx
    have HBX := Lib.hid hBx
    have HOK := Lib.hid hok
    clear hX hcx hbx hOx hMx hBx hr hO hM hok
    have HCNT := Lib.hid hCNT
    clear hCNT
    cases hrt : x.rt
    · rw [hrt] at r5 e5 HMX HBX HOX hlk
      have HF := Lib.hid hrt
      clear hrt
      go_wp2_with fail
      go_roundw
      case rel =>
        refine ⟨k + 1, ks, by go_num, by omega, ?_, HMX.out, Lib.hid (HM.out.skip HX.out (.inl HF.out)), HBX.out⟩
        rw [cntTo_no (by rw [HCNT.out, HF.out]; rfl)]; exact HOX.out
      case measure => simp [intOf]; omega
    rw [hrt] at r5 e5 HMX HBX HOX hlk
    have HRT := Lib.hid hrt
    clear hrt
    by_cases hp : x.pz = p
    rotate_left
    · have g1 : (x.pz == p) = false := by simpa using hp
      have HF := Lib.hid hp
      clear hp
      go_wp2_with fail
      go_roundw
      case rel =>
        refine ⟨k + 1, ks, by go_num, by omega, ?_, HMX.out, Lib.hid (HM.out.skip HX.out (.inr (.inl HF.out))), HBX.out⟩
        rw [cntTo_no (by rw [HCNT.out, decide_eq_false HF.out]; simp)]; exact HOX.out
      case measure => simp [intOf]; omega
    have g1 : (x.pz == p) = true := by simpa using hp
    have HP := Lib.hid hp
    clear hp
    cases hm : decide (x.cm ∈ ks)
    rotate_left
    · rw [hm] at hlk
      have HF := Lib.hid hm
      clear hm
      go_wp2_with fail
      go_roundw
      case rel =>
        refine ⟨k + 1, ks, by go_num, by omega, ?_, HMX.out, Lib.hid (HM.out.skip HX.out (.inr (.inr (of_decide_eq_true HF.out)))), HBX.out⟩
        rw [cntTo_no (by rw [HCNT.out, HF.out]; simp)]; exact HOX.out
      case measure => simp [intOf]; omega
    rw [hm] at hlk
    have HNM := Lib.hid (of_decide_eq_false hm)
    have HF := Lib.hid hm
    clear hm
    obtain ⟨w9, hput, hM9, hg9, -⟩ := HMX.out.put int_key x.cm HOK.out
    simp only [kiV] at hput
    have hO9 := HOX.out.grown hg9 (.inr fun e => by have := (HOX.out.lt _ e).1; omega)
    have hB9 := HBX.out.grown hg9 HBX.out.size (fun b e => by injection e with e; omega)
    have hcl : (cntTo l p k).length ≤ nl := Nat.le_trans (cntTo_le l p k) hk
    have hM9' : BMap kiV okI w9 W.heap.size (if x.cm ∈ ks then ks else ks ++ [x.cm]) := hM9
    have HM9 := Lib.hid hM9'
    have HB9 := Lib.hid hB9
    have hl9 := hM9.lt
    have HO9 := Lib.hid hO9
    clear hM9 hM9' hB9 hO9 hg9
    go_wp2_with (at_builtin; refine wpList_append_own2 _ rfl _ _ 22 rfl (W.heap.size + 1) 3 i3 _ 1 8 Tryz.underlying22 hi3 hz30 hz31 hz32 rfl (by decide) _ _ _ (HO9.out.alloc _) rfl ⟨_, 0, none⟩ 1 1 [.int .i64 k] rfl rfl (news1' _ _ _ _ (by first | rfl | simp)) (by simp [Value.oneCell']) (by unfold maxLen; omega) (by omega) (by first | omega | (simp; omega)) ?_; intro v' w1 hown' hgrow hfr)
    go_roundw
    case rel =>
      have hal : Below w9.heap.size w9 (w9.alloc (.cells #[.int .i64 k] 3)) := al0 _ _ _
      have hO := HO9.out
      refine ⟨k + 1, _, by go_num, by omega, ?_, (HM9.out.below hal).grown hgrow (fun e => by have := (hO.lt _ e.symm).1; omega), Lib.hid (HM.out.add HX.out HRT.out HP.out HNM.out), (HB9.out.on hal).grown hgrow (HB9.out.on hal).size (fun b e => by have := (hO.lt _ e).1; omega)⟩
      rw [cntTo_yes (by rw [HCNT.out, HRT.out, HP.out, HF.out]; simp)]
      exact OwnInts.snoc hown'
    case measure => simp [intOf]; omega
end Go.Proofs.YtehoidohallfcaaGreatDoor

