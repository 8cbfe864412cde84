/- For all lists, swaps exchange two lists, and nothing else (law14.MovesSwap), at every input. -/
import Derived.RegionTactic
import Derived.ChangeAlike
import Derived.Test.YtjiacdihfbbfjaaSane
import Derived.Test.YtjiacdihfbbfjaaArr
import Derived.Test.YtjiacdihfbbfjaaSwpM
import Derived.Test.YtjiacdihfbbfjaaRow
import Derived.Test.YtjiacdihfbbfjaaHeadF
import Derived.WalkKit
import Derived.WalkSpells
import Derived.WalkLawsBesides
import Derived.Deep.LoopGhost
import Derived.Deep.QuietTactic
import Derived.BigQuiet
import Derived.StillTailTactics
import Derived.Lib.Hide
import Derived.Outline
import Derived.Lib.QuietBelow
namespace Go.Proofs.Ytjiacdihfbbfjaa
open Go.ChangeShapes Go.WideShapes Go.ChangeAt Go.RowKit Go.Deep

def marksL (N : Nat) (l : List Int) : List Int := (List.range N).map fun (i : Nat) => if inL l (i : Int) then 1 else 0
theorem marks_len (N : Nat) (l : List Int) : (marksL N l).length = N := by unfold marksL; simp
theorem marks_get (N : Nat) (l : List Int) {i : Nat} (h : i < N) : (marksL N l)[i]?.getD 0 = if inL l (i : Int) then 1 else 0 := by unfold marksL; simp [h]
theorem marks_nil (N : Nat) : List.replicate N (0 : Int) = marksL N [] := by
  refine ext_getD (by simp) (marks_len N []) fun i hi => ?_
  rw [marks_get N [] hi]; simp [inL, hi]
theorem marks_set (N : Nat) (l : List Int) {c : Nat} (h : c < N) : (marksL N l).set c 1 = marksL N (l ++ [(c : Int)]) := by
  refine ext_getD (by rw [List.length_set, marks_len]) (marks_len N _) fun i hi => ?_
  rw [set_getD _ _ (by rw [marks_len]; exact h), marks_get N _ hi, marks_get N _ hi]
  by_cases e : c = i
  · subst e; simp [inL]
  · have : ¬ (i : Int) = (c : Int) := by omega
    simp [inL, e, this]
theorem rows_prefix (N : Nat) (ll : List (List Int)) (i : Nat) : ∀ d, ∃ rest, swapRows N ll (i + d) = swapRows N ll i ++ rest
  | 0 => ⟨[], by simp⟩
  | d + 1 => by
    obtain ⟨r, h⟩ := rows_prefix N ll i d
    exact ⟨r ++ swapRow N ll (i + d) (ll.length - (i + d + 1)), by rw [← Nat.add_assoc, swapRows_succ, h, List.append_assoc]⟩
theorem row_prefix (N : Nat) (ll : List (List Int)) (i c : Nat) : ∀ d, ∃ rest, swapRow N ll i (c + d) = swapRow N ll i c ++ rest
  | 0 => ⟨[], by simp⟩
  | d + 1 => by
    obtain ⟨r, h⟩ := row_prefix N ll i c d
    exact ⟨r ++ swapPair N ll i (i + 1 + (c + d)), by rw [← Nat.add_assoc, swapRow_succ, h, List.append_assoc]⟩
/-- The element of the list of swaps that belongs to two lists. -/
theorem rows_at {N : Nat} {ll : List (List Int)} {m i k : Nat} (hm : ll.length = m) (hik : i < k) (hk : k < m) {p : List Int} (hp : swapPair N ll i k = [p]) :
    ∃ rest, swapRows N ll m = (swapRows N ll i ++ swapRow N ll i (k - (i + 1))) ++ (p :: rest) := by
  obtain ⟨r1, h1⟩ := rows_prefix N ll (i + 1) (m - (i + 1))
  obtain ⟨r2, h2⟩ := row_prefix N ll i (k - (i + 1) + 1) (ll.length - (i + 1) - (k - (i + 1) + 1))
  rw [show i + 1 + (m - (i + 1)) = m by omega, swapRows_succ] at h1
  rw [show k - (i + 1) + 1 + (ll.length - (i + 1) - (k - (i + 1) + 1)) = ll.length - (i + 1) by omega, swapRow_succ, show i + 1 + (k - (i + 1)) = k by omega, hp] at h2
  exact ⟨r2 ++ r1, by rw [h1, h2]; simp⟩
theorem get_mid {ll a r : List (List Int)} {p : List Int} (h : ll = a ++ (p :: r)) : a.length < ll.length ∧ ll[a.length]?.getD [] = p := by
  subst h; simp
def disjB (l a : List Int) : Bool := decide (∀ x ∈ l, x ∉ a)
theorem disjB_f {l a : List Int} : disjB l a = false ↔ ¬ ∀ x ∈ l, x ∉ a := by unfold disjB; exact decide_eq_false_iff_not
theorem disjB_t {l a : List Int} : disjB l a = true ↔ ∀ x ∈ l, x ∉ a := by unfold disjB; exact decide_eq_true_iff
theorem disjB_nil (a : List Int) : disjB [] a = true := disjB_t.2 (by simp)
theorem bad_false {n : Int} {ll : List (List Int)} (h : swapsBad n ll = false) : (0 ≤ n ∧ n ≤ 256) ∧ ∀ l ∈ ll, diffL l n = true := by
  unfold swapsBad at h
  simp only [Bool.or_eq_false_iff, decide_eq_false_iff_not, Bool.not_eq_false', List.all_eq_true] at h
  exact ⟨by omega, h.2⟩

set_option maxRecDepth 100000 in
set_option maxHeartbeats 8000000 in
theorem lawSwap_any (n : Int) (a0 : Option Addr) (m c0 : Nat) (ll : List (List Int)) (W : World) (h0 : Rows W a0 m c0 ll) (hn : 0 ≤ n ∧ n ≤ 255) :
    Calls Try.prog 9 #[.int .u8 n, .slice a0 m c0] W fun e w' => e = .returned (.bool true) ∧ Below W.heap.size W w' := by
  cases hf : fewB ll
  · have HF := Lib.hid hf
    clear hf
    go_enter Try.func9, Try.ntmps9
    go_wp2_with fail
    refine (sane_any W).mono ?_
    rintro e w1 ⟨rfl, hB1⟩
    go_wp2_with fail
    have hc := few_any a0 m c0 ll w1 (h0.below hB1)
    rw [HF.out] at hc
    refine hc.mono ?_
    rintro e w2 ⟨rfl, rfl⟩
    clear hc
    go_wp2_with fail
    go_ret
    exact ⟨rfl, hB1⟩
  · have HF := Lib.hid hf
    have hm : m ≤ 12 := by
      unfold fewB at hf
      simp only [Bool.and_eq_true, decide_eq_true_eq] at hf
      rw [← h0.len]; exact hf.2
    have HS : Hid (∀ l ∈ ll, l.length ≤ 20) := Lib.hid fun l hl => by
      unfold fewB at hf
      simp only [Bool.and_eq_true, List.all_eq_true, decide_eq_true_eq] at hf
      exact hf.1 l hl
    clear hf
    go_enter Try.func9, Try.ntmps9
    go_wp2_with fail
    refine (sane_any W).mono ?_
    rintro e w1 ⟨rfl, hB1⟩
    go_wp2_with fail
    have hc := few_any a0 m c0 ll w1 (h0.below hB1)
    rw [HF.out] at hc
    refine hc.mono ?_
    rintro e w2 ⟨rfl, rfl⟩
    clear hc
    go_wp2_with fail
    cases hbad : swapsBad n ll
    · obtain ⟨hn2, hd⟩ := bad_false hbad
      have HD := Lib.hid hd
      obtain ⟨N, rfl⟩ : ∃ N : Nat, n = N := ⟨n.toNat, by omega⟩
      obtain ⟨X, hX⟩ : ∃ X, swapRows N ll m = X := ⟨_, rfl⟩
      refine (swaps_lit (h0.below hB1) (by omega) (show swapsErr N ll = 0 by unfold swapsErr; rw [hbad]; rfl) (show swapsOut N ll = X by unfold swapsOut; rw [hbad, h0.len]; exact hX)).mono ?_
      rintro e w3 ⟨v3, rfl, hO3, hB3⟩
      obtain ⟨a3, c3, rfl, hR3⟩ := hO3.rows
      obtain ⟨K, hK⟩ : ∃ K, X.length = K := ⟨_, rfl⟩
      rw [hK] at hR3 ⊢
      have hmk := fun w => by have := make_ints N (by omega) w; rw [arrL_made, marks_nil] at this; exact this
      have h3 := h0.below (hB1.on hB3)
      have hB4 := hB1.on hB3
      have hmc := hR3.mx
      have hmd := hR3.cap
      unfold maxLen at hmc
      have HL := Lib.hid h0.len
      have HX := Lib.hid hX
      have HK := Lib.hid hK
      have hmx := h0.mx
      have hcx := h0.cap
      unfold maxLen at hmx
      have hr0 : swapRows N ll 0 = [] := rfl
      have HR0 := Lib.hid hr0
      clear hbad hd hO3 hX hK hB1 hB3 hr0
      go_wp2_with fail
      go_loopw [7, 40] (fun at' c wr => ∃ i t : Nat, i ≤ m ∧ c = .int .i64 i ∧ at' = .int .i64 t ∧ Hid (t = (swapRows N ll i).length) ∧ Below w3.heap.size w3 wr) (fun _ c _ => m - (intOf c).toNat)
      case atStart => exact ⟨0, 0, by omega, rfl, rfl, Lib.hid (by rw [HR0.out]; rfl), Below.refl _ _⟩
      case round =>
        obtain ⟨i, t1, hi, rfl, rfl, HT1, hBo⟩ := hrel
        obtain ⟨wo, rfl⟩ : ∃ wo, wo = wr := ⟨_, rfl⟩
        by_cases hlto : i < m
        · go_wp2_with fail
          go_loopw [7, 9] (fun at' c wr => ∃ k t : Nat, i + 1 ≤ k ∧ k ≤ m ∧ c = .int .i64 k ∧ at' = .int .i64 t ∧ Hid (t = (swapRows N ll i ++ swapRow N ll i (k - (i + 1))).length) ∧ Below w3.heap.size w3 wr) (fun _ c _ => m - (intOf c).toNat)
          case atStart => exact ⟨i + 1, t1, by omega, by omega, by go_num, rfl, Lib.hid (by rw [HT1.out]; simp [swapRow]), hBo⟩
          case round =>
            obtain ⟨k, t, hk1, hk2, rfl, rfl, HT0, hBk⟩ := hrel
            obtain ⟨wk, rfl⟩ : ∃ wk, wk = wr := ⟨_, rfl⟩
            by_cases hlt : k < m
            · obtain ⟨b0, o0, rfl, hb0⟩ := h3.at' (by omega)
              obtain ⟨ai, ni, ci, e0, hIa⟩ := h3.row _ _ rfl i hlto
              obtain ⟨ak, nk, ck, e1, hIb⟩ := h3.row _ _ rfl k hlt
              obtain ⟨a, ha⟩ : ∃ a, ll[i]?.getD [] = a := ⟨_, rfl⟩
              obtain ⟨b, hb⟩ : ∃ b, ll[k]?.getD [] = b := ⟨_, rfl⟩
              have hma : a ∈ ll := by rw [← ha, List.getElem?_eq_getElem (by rw [HL.out]; exact hlto)]; exact List.getElem_mem _
              have hmb : b ∈ ll := by rw [← hb, List.getElem?_eq_getElem (by rw [HL.out]; exact hlt)]; exact List.getElem_mem _
              have HA : Hid (∀ j, j < ni → ∃ A : Nat, A < N ∧ a[j]?.getD 0 = A) := Lib.hid fun j hj => by
                rw [← ha] at hma ⊢
                have := (diffL_mem (HD.out _ hma)).1 _ (getD_mem _ j (by rw [hIa.len]; exact hj))
                exact ⟨((ll[i]?.getD [])[j]?.getD 0).toNat, by omega, by omega⟩
              have HB : Hid (∀ j, j < nk → ∃ A : Nat, A < N ∧ b[j]?.getD 0 = A) := Lib.hid fun j hj => by
                rw [← hb] at hmb ⊢
                have := (diffL_mem (HD.out _ hmb)).1 _ (getD_mem _ j (by rw [hIb.len]; exact hj))
                exact ⟨((ll[k]?.getD [])[j]?.getD 0).toNat, by omega, by omega⟩
              rw [ha] at hIa
              rw [hb] at hIb
              have HAE := Lib.hid ha
              have HBE := Lib.hid hb
              have HAM := Lib.hid hma
              have HBM := Lib.hid hmb
              have hca := hIa.cap
              have hxa := hIa.mx
              have hcb := hIb.cap
              have hxb := hIb.mx
              unfold maxLen at hxa hxb
              clear ha hb hma hmb
              have hwk := hBk.size
              have hBn : Below wk.heap.size wk (wk.alloc (.cells (arrL (marksL N [])) 3)) := (Below.refl _ _).alloc (Nat.le_refl _) _
              have e2 := ((hBk.on hBn).cell (p := ⟨b0, o0 + i, none⟩) hb0).trans e0
              have e3 := ((hBk.on hBn).cell (p := ⟨b0, o0 + k, none⟩) hb0).trans e1
              have q0 : (i : Int) < (m : Int) := by omega
              have q1 : (k : Int) < (m : Int) := by omega
              by_cases hne : ni = nk
              · have hle1 : ni ≤ nk := by omega
                have hle2 : nk ≤ ni := by omega
                have t1 : ((ni : Int) == (nk : Int)) = true := by simp; omega
                have t1' : (ni == nk) = true := by simp; omega
                clear hne
                by_cases hz : 0 < ni
                · have t0 : decide (0 < (ni : Int)) = true := by simp; omega
                  go_wp2_with (go_quiet (fail))
                  clear t0 t1 t1'
                  obtain ⟨wd, hwd⟩ : ∃ wd, (wk.alloc (.cells (arrL (marksL N [])) 3)).drewN nq = wd := ⟨_, rfl⟩
                  have hbw : Box wd wk.heap.size (arrL (marksL N [])) 3 := by rw [← hwd]; exact (Box.new wk _ _).drewN nq
                  have hBd : Below wk.heap.size wk wd := by rw [← hwd]; exact below_drewN ((Below.refl _ _).alloc (Nat.le_refl _) _) nq
                  rw [hwd]
                  have hwl := hbw.lt
                  obtain ⟨wb, hwb⟩ : ∃ wb, wk.heap.size = wb := ⟨_, rfl⟩
                  have hB3d : Below w3.heap.size w3 wd := hBk.on hBd
                  have f0 := (hB3d.cell (p := ⟨b0, o0 + i, none⟩) hb0).trans e0
                  have f1 := (hB3d.cell (p := ⟨b0, o0 + k, none⟩) hb0).trans e1
                  rw [hwb] at hbw hwl ⊢
                  clear hwd e2 e3
                  go_wp2_with fail
                  go_loopw [78] (fun c wr => ∃ j : Nat, j ≤ ni ∧ c = .int .i64 j ∧ Box wr wb (arrL (marksL N (a.take j))) 3 ∧ Below wk.heap.size wk wr) (fun c _ => ni - (intOf c).toNat)
                  case atStart => exact ⟨0, by omega, rfl, by simpa using hbw, hBd⟩
                  case round =>
                    clear hbw f0 f1
                    obtain ⟨j, hj, rfl, hP, hBz⟩ := hrel
                    by_cases hlt2 : j < ni
                    · obtain ⟨A, hA, eA⟩ := HA.out j hlt2
                      obtain ⟨ba, oa, rfl, hba⟩ := hIa.at' (by omega)
                      have g0 := ((hBk.on hBz).cell (p := ⟨ba, oa + j, none⟩) hba).trans (hIa.cell _ _ rfl j hlt2)
                      rw [eA] at g0
                      have d5 := hP.cell A
                      rw [arrL_get _ (by rw [marks_len]; exact hA)] at d5
                      have f5 := hP.frozen A
                      have q0 : (A : Int) < (N : Int) := by omega
                      have q1 : (0 : Int) ≤ (A : Int) := by omega
                      have HT : Hid (a.take (j + 1) = a.take j ++ [(A : Int)]) := Lib.hid (by rw [take_getD a j (by rw [hIa.len]; exact hlt2), eA])
                      have hP2 := hP.set A (.int .i64 1)
                      rw [arrL_set, marks_set N _ hA, ← HT.out] at hP2
                      have hB2 := hBz.setCell (p := ⟨wb, A, none⟩) (by simp; omega) (.int .i64 1)
                      clear hP eA
                      go_wp2_with fail
                      go_roundw
                      case rel => exact ⟨j + 1, by omega, by go_num, hP2, hB2⟩
                      case measure => simp [intOf]; omega
                    · obtain rfl : j = ni := by omega
                      rw [List.take_of_length_le (by rw [hIa.len]; omega)] at hP
                      obtain ⟨we, rfl⟩ : ∃ we, we = wr := ⟨_, rfl⟩
                      have hB3e : Below w3.heap.size w3 we := hBk.on hBz
                      have f1 := (hB3e.cell (p := ⟨b0, o0 + k, none⟩) hb0).trans e1
                      go_wp2_with fail
                      go_loopw [11, 91] (fun p c wr => ∃ (j2 : Nat) (P : Bool), j2 ≤ nk ∧ c = .int .i64 j2 ∧ p = .bool P ∧ Hid (P = disjB (b.take j2) a) ∧ Box wr wb (arrL (marksL N (a ++ b.take j2))) 3 ∧ Below wk.heap.size wk wr) (fun _ c _ => nk - (intOf c).toNat)
                      case atStart => exact ⟨0, true, by omega, rfl, rfl, Lib.hid (by simp [disjB_nil]), by simpa using hP, hBz⟩
                      case round =>
                        clear hP f1
                        obtain ⟨j2, P, hj2, rfl, rfl, hPP, hQ, hBy⟩ := hrel
                        by_cases hlt4 : j2 < nk
                        · skip
                          obtain ⟨B, hB, eB⟩ := HB.out j2 hlt4
                          obtain ⟨bb, ob, rfl, hbb⟩ := hIb.at' (by omega)
                          have g1 := ((hBk.on hBy).cell (p := ⟨bb, ob + j2, none⟩) hbb).trans (hIb.cell _ _ rfl j2 hlt4)
                          rw [eB] at g1
                          have d5 := hQ.cell B
                          rw [arrL_get _ (by rw [marks_len]; exact hB), marks_get N _ hB] at d5
                          have f5 := hQ.frozen B
                          have q0 : (B : Int) < (N : Int) := by omega
                          have q1 : (0 : Int) ≤ (B : Int) := by omega
                          have HT4 : Hid (b.take (j2 + 1) = b.take j2 ++ [(B : Int)]) := Lib.hid (by rw [take_getD b j2 (by rw [hIb.len]; exact hlt4), eB])
                          have hQ2 := hQ.set B (.int .i64 1)
                          rw [arrL_set, marks_set N _ hB, List.append_assoc, ← HT4.out] at hQ2
                          have hB5 := hBy.setCell (p := ⟨wb, B, none⟩) (by simp; omega) (.int .i64 1)
                          have hnb : (B : Int) ∉ b.take j2 := fun hm => by
                            obtain ⟨z, hz, ez⟩ := List.mem_take_iff_getElem.1 hm
                            have hz := Nat.lt_min.1 hz
                            have := nodup_at (diffL_mem (HD.out _ HBM.out)).2 (i := z) (j := j2) (by omega) (by rw [hIb.len]; exact hlt4) (by rw [eB, ← ez, List.getElem?_eq_getElem (by omega)]; rfl)
                            omega
                          cases P
                          · have HP' : Hid (false = disjB (b.take (j2 + 1)) a) := Lib.hid (by
                              symm; rw [disjB_f]
                              intro h
                              have h1 := disjB_f.1 hPP.out.symm
                              exact h1 fun x hx => h x (by rw [HT4.out]; exact List.mem_append.2 (.inl hx)))
                            generalize (if inL (a ++ b.take j2) (B : Int) then (1 : Int) else 0) = v5 at d5
                            clear hQ eB hPP hnb
                            go_wp2_with fail
                            go_roundw
                            case rel => exact ⟨j2 + 1, false, by omega, by go_num, rfl, HP', hQ2, hB5⟩
                            case measure => simp [intOf]; omega
                          · by_cases hin : (B : Int) ∈ a
                            · have HP' : Hid (false = disjB (b.take (j2 + 1)) a) := Lib.hid (by
                                symm; rw [disjB_f]
                                intro h
                                exact h (B : Int) (by rw [HT4.out]; simp) hin)
                              have hif : (if inL (a ++ b.take j2) (B : Int) then (1 : Int) else 0) = 1 := by simp [inL, hin]
                              rw [hif] at d5
                              clear hQ eB hPP hnb hin hif
                              go_wp2_with fail
                              go_roundw
                              case rel => exact ⟨j2 + 1, false, by omega, by go_num, rfl, HP', hQ2, hB5⟩
                              case measure => simp [intOf]; omega
                            · have HP' : Hid (true = disjB (b.take (j2 + 1)) a) := Lib.hid (by
                                symm; rw [disjB_t]
                                intro x hx
                                rw [HT4.out] at hx
                                rcases List.mem_append.1 hx with hx | hx
                                · exact disjB_t.1 hPP.out.symm x hx
                                · rw [List.mem_singleton.1 hx]; exact hin)
                              have hif : (if inL (a ++ b.take j2) (B : Int) then (1 : Int) else 0) = 0 := by simp [inL, hin, hnb]
                              rw [hif] at d5
                              clear hQ eB hPP hnb hin hif
                              go_wp2_with fail
                              go_roundw
                              case rel => exact ⟨j2 + 1, true, by omega, by go_num, rfl, HP', hQ2, hB5⟩
                              case measure => simp [intOf]; omega
                        · obtain rfl : j2 = nk := by omega
                          rw [List.take_of_length_le (by rw [hIb.len]; omega)] at hPP hQ
                          cases P
                          · have HNO : Hid (swapPair N ll i k = []) := Lib.hid (swapPair_no fun h => by
                              have h1 := disjB_f.1 hPP.out.symm
                              refine h1 fun x hx hxa => ?_
                              rw [HAE.out, HBE.out] at h
                              exact apartL_ne h.2.2 hxa hx)
                            clear hPP hQ
                            go_wp2_with fail
                            go_roundw
                            case rel => exact ⟨k + 1, t, by omega, by omega, by go_num, rfl, Lib.hid (by rw [HT0.out, swapRow_next (by omega), HNO.out, List.append_nil]), hBk.on hBy⟩
                            case measure => simp [intOf]; omega
                          · have hap : apartL a b = true := by
                              unfold apartL
                              rw [decide_eq_true_eq]
                              intro x hx hxb
                              exact disjB_t.1 hPP.out.symm x hxb hx
                            have HPR : Hid (Pair N a b) := Lib.hid ⟨by rw [hIa.len, hIb.len]; omega, HD.out _ HAM.out, HD.out _ HBM.out, hap⟩
                            have HYES : Hid (swapPair N ll i k = [swapL N a b]) := Lib.hid (by
                              rw [swapPair_yes (by rw [HAE.out, HBE.out, hIa.len, hIb.len]; exact ⟨by omega, by omega, hap⟩), HAE.out, HBE.out])
                            obtain ⟨rest, hrest⟩ := rows_at HL.out (show i < k by omega) hlt HYES.out
                            rw [HX.out] at hrest
                            obtain ⟨ht1, ht2⟩ := get_mid hrest
                            rw [← HT0.out] at ht1 ht2
                            rw [HK.out] at ht1
                            obtain ⟨b3, o3, rfl, hb3⟩ := hR3.at' (by omega)
                            obtain ⟨ap, np, cp, k0, hIp⟩ := hR3.row _ _ rfl t ht1
                            rw [ht2] at hIp
                            obtain rfl : np = N := by rw [← hIp.len, swapL_len]
                            obtain ⟨wf, rfl⟩ : ∃ wf, wf = wr := ⟨_, rfl⟩
                            have hB3f : Below w3.heap.size w3 wf := hBk.on hBy
                            have k1 := (hB3f.cell (p := ⟨b3, o3 + t, none⟩) hb3).trans k0
                            have f0 := (hB3f.cell (p := ⟨b0, o0 + i, none⟩) hb0).trans e0
                            have hIpf := hIp.below hB3f
                            have tK : decide (K ≤ t) = false := by simp; omega
                            have tK' : decide ((K : Int) ≤ (t : Int)) = false := by simp; omega
                            have hcp := hIp.cap
                            have hmp := hIp.mx
                            unfold maxLen at hmp
                            have hwbl := hQ.lt
                            have q9 : (t : Int) < (K : Int) := by omega
                            clear hPP hap hrest ht2 k0 hIp
                            go_wp2_with fail
                            go_loop [131] (fun c => ∃ x : Nat, x ≤ np ∧ c = .int .i64 x) (fun c => np - (intOf c).toNat)
                            case atStart => exact ⟨0, by omega, rfl⟩
                            case round =>
                              clear k1 f0
                              obtain ⟨x, hx, rfl⟩ := hrel
                              by_cases hlt5 : x < np
                              · obtain ⟨T, hT, eT, eT2, hTc⟩ := HPR.out.asked hlt5
                                obtain ⟨bp, op, rfl, hbp⟩ := hIpf.at' (by omega)
                                have r0 := hIpf.cell _ _ rfl x hlt5
                                have r1 := hIpf.cell _ _ rfl T hT
                                rw [swapL_get hlt5, eT] at r0
                                rw [swapL_get hT, eT2] at r1
                                have r2 := hQ.cell x
                                rw [arrL_get _ (by rw [marks_len]; exact hlt5), marks_get np _ hlt5] at r2
                                have q5 : (0 : Int) ≤ (T : Int) := by omega
                                have q6 : (T : Int) < (np : Int) := by omega
                                have q7 : (x : Int) < (np : Int) := by omega
                                have t5 : decide (np ≤ T) = false := by simp; omega
                                have t6 : decide ((np : Int) ≤ (T : Int)) = false := by simp; omega
                                by_cases hin : inL (a ++ b) (x : Int) = true
                                · rw [hin] at r2
                                  simp only [if_true] at r2
                                  clear eT eT2 hTc hin
                                  go_wp2_with fail
                                  go_round
                                  case rel => exact ⟨x + 1, by omega, by go_num⟩
                                  case measure => simp [intOf]; omega
                                · have hin' : inL (a ++ b) (x : Int) = false := by simpa using hin
                                  rw [hin'] at r2
                                  have hna : (x : Int) ∉ a ∧ (x : Int) ∉ b := by simpa [inL] using hin'
                                  have hTx := hTc hna.1 hna.2
                                  subst hTx
                                  simp only [Bool.false_eq_true, if_false] at r2
                                  clear eT eT2 hTc hin hin' hna
                                  go_wp2_with fail
                                  go_round
                                  case rel => exact ⟨T + 1, by omega, by go_num⟩
                                  case measure => simp [intOf]; omega
                              · obtain rfl : x = np := by omega
                                have f0 := (hB3f.cell (p := ⟨b0, o0 + i, none⟩) hb0).trans e0
                                go_wp2_with fail
                                go_loopw [170] (fun c wr => ∃ y : Nat, y ≤ j2 ∧ c = .int .i64 y ∧ Below wf.heap.size wf wr) (fun c _ => j2 - (intOf c).toNat)
                                case atStart => exact ⟨0, by omega, rfl, Below.refl _ _⟩
                                case round =>
                                  clear f0
                                  obtain ⟨y, hy, rfl, hBx⟩ := hrel
                                  by_cases hlt6 : y < j2
                                  · obtain ⟨A, hA, eA⟩ := HA.out y (by omega)
                                    obtain ⟨B, hB, eB⟩ := HB.out y hlt6
                                    have hat := HPR.out.atA (m := y) (by rw [hIa.len]; omega)
                                    rw [eA, eB] at hat
                                    have hB3x : Below w3.heap.size w3 wr := hB3f.on hBx
                                    obtain ⟨ba, oa, rfl, hba⟩ := hIa.at' (by omega)
                                    have g0 := (hB3x.cell (p := ⟨ba, oa + y, none⟩) hba).trans (hIa.cell _ _ rfl y (by omega))
                                    rw [eA] at g0
                                    obtain ⟨bb, ob, rfl, hbb⟩ := hIb.at' (by omega)
                                    have g1 := (hB3x.cell (p := ⟨bb, ob + y, none⟩) hbb).trans (hIb.cell _ _ rfl y hlt6)
                                    rw [eB] at g1
                                    obtain ⟨bp, op, rfl, hbp⟩ := hIpf.at' (by omega)
                                    have r1 := (hBx.cell (p := ⟨bp, op + A, none⟩) hbp).trans (hIpf.cell _ _ rfl A hA)
                                    rw [swapL_get hA, hat] at r1
                                    have f1 := (hB3x.cell (p := ⟨b0, o0 + k, none⟩) hb0).trans e1
                                    have q5 : (0 : Int) ≤ (A : Int) := by omega
                                    have q6 : (A : Int) < (x : Int) := by omega
                                    have q7 : (k : Int) < (m : Int) := by omega
                                    have q8 : (y : Int) < (j2 : Int) := by omega
                                    clear hat eA eB
                                    go_wp2_with (go_quiet (fail))
                                    go_wp2_with fail
                                    go_roundw
                                    case rel => exact ⟨y + 1, by omega, by go_num, below_drewN hBx _⟩
                                    case measure => simp [intOf]; omega
                                  · obtain rfl : y = j2 := by omega
                                    go_wp2_with fail
                                    go_roundw
                                    case rel => exact ⟨k + 1, t + 1, by omega, by omega, by go_num, by go_num, Lib.hid (by rw [HT0.out, swapRow_next (by omega), HYES.out]; simp; omega), hB3f.on hBx⟩
                                    case measure => simp [intOf]; omega
                · have t0 : decide (0 < (ni : Int)) = false := by simp; omega
                  have HNO : Hid (swapPair N ll i k = []) := Lib.hid (swapPair_no fun h => by rw [HAE.out, hIa.len] at h; omega)
                  go_wp2_with (go_quiet (fail))
                  clear t0 t1 t1' hz
                  obtain ⟨wd, hwd⟩ : ∃ wd, (wk.alloc (.cells (arrL (marksL N [])) 3)).drewN nq = wd := ⟨_, rfl⟩
                  have hbw : Box wd wk.heap.size (arrL (marksL N [])) 3 := by rw [← hwd]; exact (Box.new wk _ _).drewN nq
                  have hBd : Below wk.heap.size wk wd := by rw [← hwd]; exact below_drewN ((Below.refl _ _).alloc (Nat.le_refl _) _) nq
                  rw [hwd]
                  have hwl := hbw.lt
                  obtain ⟨wb, hwb⟩ : ∃ wb, wk.heap.size = wb := ⟨_, rfl⟩
                  have hB3d : Below w3.heap.size w3 wd := hBk.on hBd
                  have f0 := (hB3d.cell (p := ⟨b0, o0 + i, none⟩) hb0).trans e0
                  have f1 := (hB3d.cell (p := ⟨b0, o0 + k, none⟩) hb0).trans e1
                  rw [hwb] at hbw hwl ⊢
                  clear hwd e2 e3
                  go_wp2_with fail
                  go_loopw [78] (fun c wr => ∃ j : Nat, j ≤ ni ∧ c = .int .i64 j ∧ Box wr wb (arrL (marksL N (a.take j))) 3 ∧ Below wk.heap.size wk wr) (fun c _ => ni - (intOf c).toNat)
                  case atStart => exact ⟨0, by omega, rfl, by simpa using hbw, hBd⟩
                  case round =>
                    clear hbw f0 f1
                    obtain ⟨j, hj, rfl, hP, hBz⟩ := hrel
                    by_cases hlt2 : j < ni
                    · obtain ⟨A, hA, eA⟩ := HA.out j hlt2
                      obtain ⟨ba, oa, rfl, hba⟩ := hIa.at' (by omega)
                      have g0 := ((hBk.on hBz).cell (p := ⟨ba, oa + j, none⟩) hba).trans (hIa.cell _ _ rfl j hlt2)
                      rw [eA] at g0
                      have d5 := hP.cell A
                      rw [arrL_get _ (by rw [marks_len]; exact hA)] at d5
                      have f5 := hP.frozen A
                      have q0 : (A : Int) < (N : Int) := by omega
                      have q1 : (0 : Int) ≤ (A : Int) := by omega
                      have HT : Hid (a.take (j + 1) = a.take j ++ [(A : Int)]) := Lib.hid (by rw [take_getD a j (by rw [hIa.len]; exact hlt2), eA])
                      have hP2 := hP.set A (.int .i64 1)
                      rw [arrL_set, marks_set N _ hA, ← HT.out] at hP2
                      have hB2 := hBz.setCell (p := ⟨wb, A, none⟩) (by simp; omega) (.int .i64 1)
                      clear hP eA
                      go_wp2_with fail
                      go_roundw
                      case rel => exact ⟨j + 1, by omega, by go_num, hP2, hB2⟩
                      case measure => simp [intOf]; omega
                    · obtain rfl : j = ni := by omega
                      rw [List.take_of_length_le (by rw [hIa.len]; omega)] at hP
                      obtain ⟨we, rfl⟩ : ∃ we, we = wr := ⟨_, rfl⟩
                      have hB3e : Below w3.heap.size w3 we := hBk.on hBz
                      have f1 := (hB3e.cell (p := ⟨b0, o0 + k, none⟩) hb0).trans e1
                      go_wp2_with fail
                      go_loopw [11, 91] (fun p c wr => ∃ j2 : Nat, j2 ≤ nk ∧ c = .int .i64 j2 ∧ p = .bool false ∧ Box wr wb (arrL (marksL N (a ++ b.take j2))) 3 ∧ Below wk.heap.size wk wr) (fun _ c _ => nk - (intOf c).toNat)
                      case atStart => exact ⟨0, by omega, rfl, rfl, by simpa using hP, hBz⟩
                      case round =>
                        clear hP f1
                        obtain ⟨j2, hj2, rfl, rfl, hQ, hBy⟩ := hrel
                        by_cases hlt4 : j2 < nk
                        · skip
                          obtain ⟨B, hB, eB⟩ := HB.out j2 hlt4
                          obtain ⟨bb, ob, rfl, hbb⟩ := hIb.at' (by omega)
                          have g1 := ((hBk.on hBy).cell (p := ⟨bb, ob + j2, none⟩) hbb).trans (hIb.cell _ _ rfl j2 hlt4)
                          rw [eB] at g1
                          have d5 := hQ.cell B
                          rw [arrL_get _ (by rw [marks_len]; exact hB), marks_get N _ hB] at d5
                          have f5 := hQ.frozen B
                          have q0 : (B : Int) < (N : Int) := by omega
                          have q1 : (0 : Int) ≤ (B : Int) := by omega
                          have HT4 : Hid (b.take (j2 + 1) = b.take j2 ++ [(B : Int)]) := Lib.hid (by rw [take_getD b j2 (by rw [hIb.len]; exact hlt4), eB])
                          have hQ2 := hQ.set B (.int .i64 1)
                          rw [arrL_set, marks_set N _ hB, List.append_assoc, ← HT4.out] at hQ2
                          have hB5 := hBy.setCell (p := ⟨wb, B, none⟩) (by simp; omega) (.int .i64 1)
                          generalize (if inL (a ++ b.take j2) (B : Int) then (1 : Int) else 0) = v5 at d5
                          clear hQ eB
                          go_wp2_with fail
                          go_roundw
                          case rel => exact ⟨j2 + 1, by omega, by go_num, rfl, hQ2, hB5⟩
                          case measure => simp [intOf]; omega
                        · obtain rfl : j2 = nk := by omega
                          go_wp2_with fail
                          go_roundw
                          case rel => exact ⟨k + 1, t, by omega, by omega, by go_num, rfl, Lib.hid (by rw [HT0.out, swapRow_next (by omega), HNO.out, List.append_nil]), hBk.on hBy⟩
                          case measure => simp [intOf]; omega
              · have t1 : ((ni : Int) == (nk : Int)) = false := by simp; omega
                have t1' : (ni == nk) = false := by simp; omega
                have HNO : Hid (swapPair N ll i k = []) := Lib.hid (swapPair_no fun h => by rw [HAE.out, HBE.out, hIa.len, hIb.len] at h; omega)
                go_wp2_with (go_quiet (fail))
                clear t1 t1'
                obtain ⟨wd, hwd⟩ : ∃ wd, (wk.alloc (.cells (arrL (marksL N [])) 3)).drewN nq = wd := ⟨_, rfl⟩
                have hbw : Box wd wk.heap.size (arrL (marksL N [])) 3 := by rw [← hwd]; exact (Box.new wk _ _).drewN nq
                have hBd : Below wk.heap.size wk wd := by rw [← hwd]; exact below_drewN ((Below.refl _ _).alloc (Nat.le_refl _) _) nq
                rw [hwd]
                have hwl := hbw.lt
                obtain ⟨wb, hwb⟩ : ∃ wb, wk.heap.size = wb := ⟨_, rfl⟩
                have hB3d : Below w3.heap.size w3 wd := hBk.on hBd
                have f0 := (hB3d.cell (p := ⟨b0, o0 + i, none⟩) hb0).trans e0
                have f1 := (hB3d.cell (p := ⟨b0, o0 + k, none⟩) hb0).trans e1
                rw [hwb] at hbw hwl ⊢
                clear hwd e2 e3
                go_wp2_with fail
                go_loopw [78] (fun c wr => ∃ j : Nat, j ≤ ni ∧ c = .int .i64 j ∧ Box wr wb (arrL (marksL N (a.take j))) 3 ∧ Below wk.heap.size wk wr) (fun c _ => ni - (intOf c).toNat)
                case atStart => exact ⟨0, by omega, rfl, by simpa using hbw, hBd⟩
                case round =>
                  clear hbw f0 f1
                  obtain ⟨j, hj, rfl, hP, hBz⟩ := hrel
                  by_cases hlt2 : j < ni
                  · obtain ⟨A, hA, eA⟩ := HA.out j hlt2
                    obtain ⟨ba, oa, rfl, hba⟩ := hIa.at' (by omega)
                    have g0 := ((hBk.on hBz).cell (p := ⟨ba, oa + j, none⟩) hba).trans (hIa.cell _ _ rfl j hlt2)
                    rw [eA] at g0
                    have d5 := hP.cell A
                    rw [arrL_get _ (by rw [marks_len]; exact hA)] at d5
                    have f5 := hP.frozen A
                    have q0 : (A : Int) < (N : Int) := by omega
                    have q1 : (0 : Int) ≤ (A : Int) := by omega
                    have HT : Hid (a.take (j + 1) = a.take j ++ [(A : Int)]) := Lib.hid (by rw [take_getD a j (by rw [hIa.len]; exact hlt2), eA])
                    have hP2 := hP.set A (.int .i64 1)
                    rw [arrL_set, marks_set N _ hA, ← HT.out] at hP2
                    have hB2 := hBz.setCell (p := ⟨wb, A, none⟩) (by simp; omega) (.int .i64 1)
                    clear hP eA
                    go_wp2_with fail
                    go_roundw
                    case rel => exact ⟨j + 1, by omega, by go_num, hP2, hB2⟩
                    case measure => simp [intOf]; omega
                  · obtain rfl : j = ni := by omega
                    rw [List.take_of_length_le (by rw [hIa.len]; omega)] at hP
                    obtain ⟨we, rfl⟩ : ∃ we, we = wr := ⟨_, rfl⟩
                    have hB3e : Below w3.heap.size w3 we := hBk.on hBz
                    have f1 := (hB3e.cell (p := ⟨b0, o0 + k, none⟩) hb0).trans e1
                    go_wp2_with fail
                    go_loopw [11, 91] (fun p c wr => ∃ j2 : Nat, j2 ≤ nk ∧ c = .int .i64 j2 ∧ p = .bool false ∧ Box wr wb (arrL (marksL N (a ++ b.take j2))) 3 ∧ Below wk.heap.size wk wr) (fun _ c _ => nk - (intOf c).toNat)
                    case atStart => exact ⟨0, by omega, rfl, rfl, by simpa using hP, hBz⟩
                    case round =>
                      clear hP f1
                      obtain ⟨j2, hj2, rfl, rfl, hQ, hBy⟩ := hrel
                      by_cases hlt4 : j2 < nk
                      · skip
                        obtain ⟨B, hB, eB⟩ := HB.out j2 hlt4
                        obtain ⟨bb, ob, rfl, hbb⟩ := hIb.at' (by omega)
                        have g1 := ((hBk.on hBy).cell (p := ⟨bb, ob + j2, none⟩) hbb).trans (hIb.cell _ _ rfl j2 hlt4)
                        rw [eB] at g1
                        have d5 := hQ.cell B
                        rw [arrL_get _ (by rw [marks_len]; exact hB), marks_get N _ hB] at d5
                        have f5 := hQ.frozen B
                        have q0 : (B : Int) < (N : Int) := by omega
                        have q1 : (0 : Int) ≤ (B : Int) := by omega
                        have HT4 : Hid (b.take (j2 + 1) = b.take j2 ++ [(B : Int)]) := Lib.hid (by rw [take_getD b j2 (by rw [hIb.len]; exact hlt4), eB])
                        have hQ2 := hQ.set B (.int .i64 1)
                        rw [arrL_set, marks_set N _ hB, List.append_assoc, ← HT4.out] at hQ2
                        have hB5 := hBy.setCell (p := ⟨wb, B, none⟩) (by simp; omega) (.int .i64 1)
                        generalize (if inL (a ++ b.take j2) (B : Int) then (1 : Int) else 0) = v5 at d5
                        clear hQ eB
                        go_wp2_with fail
                        go_roundw
                        case rel => exact ⟨j2 + 1, by omega, by go_num, rfl, hQ2, hB5⟩
                        case measure => simp [intOf]; omega
                      · obtain rfl : j2 = nk := by omega
                        go_wp2_with fail
                        go_roundw
                        case rel => exact ⟨k + 1, t, by omega, by omega, by go_num, rfl, Lib.hid (by rw [HT0.out, swapRow_next (by omega), HNO.out, List.append_nil]), hBk.on hBy⟩
                        case measure => simp [intOf]; omega
            · obtain rfl : k = m := by omega
              go_wp2_with fail
              go_roundw
              case rel => exact ⟨i + 1, t, by omega, by go_num, rfl, Lib.hid (by rw [HT0.out, swapRows_succ, HL.out]), hBk⟩
              case measure => simp [intOf]; omega
        · obtain rfl : i = m := by omega
          have hKt : t1 = K := by rw [HT1.out, HX.out, HK.out]
          subst hKt
          go_wp2_with fail
          go_ret
          exact ⟨by simp, hB4.on hBo⟩
    · refine (swaps_lit (h0.below hB1) (by omega) (show swapsErr n ll = 140 by unfold swapsErr; rw [hbad]; rfl) (show swapsOut n ll = [] by unfold swapsOut; rw [hbad]; rfl)).mono ?_
      rintro e w3 ⟨v3, rfl, hO3, hB3⟩
      obtain ⟨a3, c3, rfl, hR3⟩ := hO3.rows
      go_wp2_with fail
      go_ret
      exact ⟨by simp, hB1.on hB3⟩

set_option maxRecDepth 100000 in
theorem swap_lifted (os : Os) (started : os.Started) (H : Type) (enc : TypeId × Value → H) :
    ReturnsInHanded {} Try.checked os 9 .any (Rows.movesSwapSpec.pre6 enc Try.prog Try.f9 Rows.movesSwapRow.domain false) (Rows.movesSwapSpec.post enc Try.prog Try.f9 false true false false) := by
  refine returnsInHanded_of_change (C := Try.checked) row_own started (by kernel_rfl) Try.func9
    (ChangeSpec.witness6 (enc := enc) (C := Try.checked) false ⟨#[], #[.int .u8 0, .slice none 0 0], []⟩ 8 (by kernel_rfl) (by kernel_rfl) (by kernel_rfl) (by kernel_rfl)) ?_
  intro W base args ds gs before hval0 hW _ _
  have hval : ∀ (j : Nat) t v, Try.f9.params[j]? = some t → args[j]? = some v → Value.okWide Try.prog W .any base t v := hval0
  have hW' := hW
  obtain ⟨p, q, hA0, hV, rfl, _, _⟩ := hW
  have hA : DataW.TrodAll enc Try.prog W 0 (fun _ => true) true Try.f9.params.toList args.toList ds p := hA0
  rw [Try.params9] at hA hval
  obtain ⟨v0, v1, d0, d1, p0, p1, rfl, rfl, rfl, h0, h1⟩ := trodAll_two hA
  obtain ⟨rfl, rfl⟩ := trodVars_none hV
  obtain ⟨n, rfl, rfl, rfl, wn⟩ := open_int Try.underlying5 (hval 0 5 v0 rfl rfl) h0
  obtain ⟨a, m, c, ll, rfl, hR, _⟩ := open_LL (hval 1 28 v1 rfl rfl) h1
  have hn : 0 ≤ n ∧ n ≤ 255 := by
    have e1 : IntKind.u8.min = 0 := rfl
    have e2 : IntKind.u8.max = 255 := rfl
    simpa [Lit.wf, e1, e2] using wn
  refine (lawSwap_any n a m c ll W hR hn).mono fun e W' ⟨he, hb⟩ => ?_
  subst he
  exact ⟨_, rfl, law_post hW' rfl rfl (by kernel_rfl) rfl hb⟩
set_option maxHeartbeats 2000000 in
theorem movesSwap_closed : joinedFacts Try.prog 9 Try.f9 Rows.movesSwapSpec Rows.movesSwapRow = true := by
  unfold joinedFacts
  refine bt (bt (bt (bt (bt (bt (bt (bt (bt (bt (bt (bt (bt (bt (bt (bt (bt (bt (bt (bt (bt (bt (bt (bt (bt (bt (bt (bt (bt (bt (bt ?a0 ?a1) ?a2) ?a3) ?a4) ?a5) ?a6) ?a7) ?a8) ?a9) ?a10) ?a11) ?a12) ?a13) ?a14) ?a15) ?a16) ?a17) ?a18) ?a19) ?a20) ?a21) ?a22) ?a23) ?a24) ?a25) ?a26) ?a27) ?a28) ?a29) ?a30) ?a31
  case a25 => exact prog_enter
  case a26 => exact prog_lifts
  case a27 => exact prog_make
  all_goals as_aux_lemma => kernel_rfl
theorem movesSwap_holds : Rows.MovesSwapSaid :=
  OpenClaim.holds_of_wide 9 Try.f9 rfl rfl rfl rfl rfl rfl rfl ⟨rfl, rfl, rfl, rfl, rfl⟩ rfl rfl rfl rfl rfl (by kernel_rfl) Try.func9 movesSwap_closed
    (of_decide_eq_true (by kernel_rfl)) (by unfold Func.isWrapper; rw [if_neg (of_decide_eq_false (by kernel_rfl))]; exact ⟨rfl, rfl⟩)
    (fun os started H enc _ => swap_lifted os started H enc)
#print axioms movesSwap_holds
end Go.Proofs.Ytjiacdihfbbfjaa
