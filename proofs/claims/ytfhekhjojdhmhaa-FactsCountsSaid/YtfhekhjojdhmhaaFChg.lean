/- Contract of facts.Changed. -/
import Derived.Test.YtfhekhjojdhmhaaFSorted
import Derived.Test.YtfhekhjojdhmhaaFVal
import Derived.Test.YtfhekhjojdhmhaaFReg
import Derived.Test.YtfhekhjojdhmhaaFChR
import Derived.Deep.RegionHeld3
import Derived.WalkMore
import Derived.WalkKit
import Derived.WalkSpells
import Derived.WalkLawsBesides
import Derived.Deep.LoopGhost
import Derived.Deep.QuietTactic
import Derived.BigQuiet
import Derived.StillTailTactics
import Derived.Lib.Hide
import Derived.Outline
import Derived.Lib.QuietBelow
namespace Go.Proofs.Ytfhekhjojdhmhaa
open Go.RowKit

/-- The keys, in the order in which they came, each once. -/
def seenK (l : List Fact) : List Key := l.foldl (fun ks f => if f.key ∈ ks then ks else ks ++ [f.key]) []
theorem seenK_snoc (l : List Fact) (f : Fact) : seenK (l ++ [f]) = if f.key ∈ seenK l then seenK l else seenK l ++ [f.key] := by unfold seenK; rw [List.foldl_append]; rfl
theorem seenK_len : ∀ l : List Fact, (seenK l).length ≤ l.length := by
  intro l
  have h : ∀ (l : List Fact) (ks : List Key), (l.foldl (fun ks f => if f.key ∈ ks then ks else ks ++ [f.key]) ks).length ≤ ks.length + l.length := by
    intro l
    induction l with
    | nil => intro ks; simp
    | cons f l ih => intro ks; rw [List.foldl_cons]; have h1 := ih (if f.key ∈ ks then ks else ks ++ [f.key]); have h2 : (if f.key ∈ ks then ks else ks ++ [f.key]).length ≤ ks.length + 1 := (by split <;> simp); simp only [List.length_cons]; omega
  have := h l []
  simpa [seenK] using this
theorem mem_seenK (k : Key) (l : List Fact) : k ∈ seenK l ↔ k ∈ keysL l := by
  rw [mem_keysL]
  have h : ∀ (l : List Fact) (ks : List Key), k ∈ l.foldl (fun ks f => if f.key ∈ ks then ks else ks ++ [f.key]) ks ↔ k ∈ ks ∨ ∃ f ∈ l, f.key = k := by
    intro l
    induction l with
    | nil => intro ks; simp
    | cons f l ih =>
      intro ks
      rw [List.foldl_cons, ih]
      have e : k ∈ (if f.key ∈ ks then ks else ks ++ [f.key]) ↔ k ∈ ks ∨ f.key = k := by
        by_cases hf : f.key ∈ ks
        · rw [if_pos hf]
          constructor
          · exact .inl
          · rintro (h | h)
            · exact h
            · rw [← h]; exact hf
        · rw [if_neg hf]; simp [eq_comm]
      rw [e]
      simp only [List.mem_cons]
      constructor
      · rintro ((h | h) | ⟨g, hg, e'⟩)
        · exact .inl h
        · exact .inr ⟨f, .inl rfl, h⟩
        · exact .inr ⟨g, .inr hg, e'⟩
      · rintro (h | ⟨g, rfl | hg, e'⟩)
        · exact .inl (.inl h)
        · exact .inl (.inr e')
        · exact .inr ⟨g, hg, e'⟩
  have := h l []
  simpa [seenK] using this

theorem val_dif (l : List Fact) (k : Key) (before after d : Int) : (valAt l k before d == valAt l k after d) = !difB l k d before after := by
  unfold difB
  rw [valAt_at, valAt_at, Bool.eq_iff_iff]
  have h1 : -1 ≤ valAt l k before d := by unfold valAt; cases bestOn d (ofL l k before) <;> simp <;> omega
  have h2 : -1 ≤ valAt l k after d := by unfold valAt; cases bestOn d (ofL l k after) <;> simp <;> omega
  generalize valAt l k before d = a at *
  generalize valAt l k after d = b at *
  by_cases ha : 0 ≤ a <;> by_cases hb : 0 ≤ b <;> simp [ha, hb] <;> omega
set_option maxRecDepth 20000 in
set_option maxHeartbeats 8000000 in
theorem changed_any (a0 : Option Addr) (n0 c0 : Nat) (l : List Fact) (before after : Int) (w : World) (h0 : SL encF 8 w a0 n0 c0 l) (hn : n0 ≤ 1000000) (hok : ∀ f ∈ l, okK f.key) :
    Calls Try.prog 24 #[.slice a0 n0 c0, .int .i64 before, .int .i64 after] w (RetDL w 57 (changedL l before after)) := by
  have hm0 := h0.mx
  have hc0 := h0.cap
  have hl0 := Lib.hid h0.len
  unfold maxLen at hm0
  obtain ⟨i2s, his, hzs0, hzs1, hzs2⟩ := info2s
  obtain ⟨i4d, hid, hzd0, hzd1, hzd2⟩ := info4d
  have HOK := Lib.hid hok
  have hal : Below w.heap.size w (w.alloc (.map #[] 0)) := (Below.refl _ _).alloc (Nat.le_refl _) _
  have hK0 := KMap.made w
  clear hok
  have hmk := fun w => run_makeMap (P := Try.prog) 72 w
  go_enter Try.func24, Try.ntmps24
  go_wp2_with fail
  go_loopw [20] (fun i wr => ∃ j : Nat, i = .int .i64 j ∧ j ≤ n0 ∧ KMap wr w.heap.size (seenK (l.take j)) ∧ Below w.heap.size w wr ∧ w.heap.size < wr.heap.size) (fun i _ => n0 - (intOf i).toNat)
  case atStart => exact ⟨0, rfl, by omega, hK0, hal, by simp⟩
  case round =>
    clear hal hK0
    obtain ⟨j, rfl, hj, hKM, hB, hbl⟩ := hrel
    by_cases hlt : j < n0
    · obtain ⟨b0, o0, rfl, hb0⟩ := h0.at' (by omega)
      obtain ⟨x, hx⟩ := h0.get hlt
      obtain ⟨e0, e1, e2, e3, e4, e5, e6, e7⟩ := (h0.below hB).fact hx
      have HT : Hid (seenK (l.take (j + 1)) = if x.key ∈ seenK (l.take j) then seenK (l.take j) else seenK (l.take j) ++ [x.key]) := Lib.hid (by rw [takeF hx, seenK_snoc])
      have hxo := HOK.out x (List.mem_of_getElem? hx)
      obtain ⟨wv, hwv, hbk, hbox⟩ : ∃ wx, wr.alloc (.cells #[.int .i64 x.kd, .int .i64 x.sb, .int .i64 x.ob, .int .i64 x.val, .int .i64 x.vf, .int .i64 x.vt, .int .i64 x.kn, .int .i64 x.no] 28) = wx ∧ Below wr.heap.size wr wx ∧ Box wx wr.heap.size #[.int .i64 x.kd, .int .i64 x.sb, .int .i64 x.ob, .int .i64 x.val, .int .i64 x.vf, .int .i64 x.vt, .int .i64 x.kn, .int .i64 x.no] 28 := ⟨_, rfl, (Below.refl _ _).alloc (Nat.le_refl _) _, Box.new _ _ _⟩
      have d0 : wv.cell? ⟨wr.heap.size, 0, none⟩ = some (.int .i64 x.kd) := by simpa using hbox.cell 0
      have d1 : wv.cell? ⟨wr.heap.size, 1, none⟩ = some (.int .i64 x.sb) := by simpa using hbox.cell 1
      have d2 : wv.cell? ⟨wr.heap.size, 2, none⟩ = some (.int .i64 x.ob) := by simpa using hbox.cell 2
      obtain ⟨w3, hrun, hKM3, hg3, hs3⟩ := (hKM.below hbk).put x.key hxo
      have k1 : (j : Int) < (n0 : Int) := by omega
      have hsb := hB.size
      have hsk := hbk.size
      have hrun' : (Instr.mapUpdate 72 (.map (some w.heap.size)) (.agg #[.int .i64 x.kd, .int .i64 x.sb, .int .i64 x.ob]) (.bool true)).run Try.prog wv = .ok () w3 := hrun
      clear hx hrun
      go_wp2_with fail
      clear hrun'
      go_roundw
      case rel => exact ⟨j + 1, by go_num, by omega, by rw [HT.out]; exact hKM3, (hB.on hbk).grown hg3 (by omega) (fun q e => by injection e with e; omega), by omega⟩
      case measure => simp [intOf]; omega
    · obtain rfl : j = n0 := by omega
      rw [List.take_of_length_le (by rw [hl0.out]; exact Nat.le_refl _)] at hKM
      obtain ⟨K, hK⟩ : ∃ K, keysL l = K := ⟨_, rfl⟩
      have HKL : Hid (K.length ≤ j) := Lib.hid (by have := keysL_len l; rw [hl0.out, hK] at this; exact this)
      have HCH : Hid (changedL l before after = K.flatMap (difOf l before after)) := Lib.hid (by rw [← hK]; rfl)
      have hSO := fun (Bm : Nat) (W : World) (hm : Box W Bm #[.map (some w.heap.size)] 72) (hKM : KMap W w.heap.size (seenK l)) =>
        sortedFunc_any W Bm w.heap.size (seenK l) K hm hKM (by have := seenK_len l; rw [hl0.out] at this; omega) (fun k => by rw [← hK]; exact mem_seenK k l) (by rw [← hK]; exact keysL_sorted l)
      have HSO := Lib.hid hSO
      have hbk : Below wr.heap.size wr (wr.alloc (.cells #[.map (some w.heap.size)] 72)) := (Below.refl _ _).alloc (Nat.le_refl _) _
      have hKM2 := hKM.below hbk
      have hbx := Box.new wr #[.map (some w.heap.size)] 72
      clear hSO hK
      go_wp2_with (first | (go_at_call 41; refine (keysM_any _ _).mono ?_; rintro e w1 ⟨rfl, rfl⟩) | (go_at_call 40; refine (HSO.out _ _ hbx hKM2).mono ?_; rintro e w2 ⟨ak, ck, rfl, hSk, hB2⟩))
      obtain ⟨nk, hnk⟩ : ∃ nk, K.length = nk := ⟨_, rfl⟩
      have HNK := Lib.hid hnk
      rw [hnk] at hSk ⊢
      have hkn := HKL.out
      rw [hnk] at hkn
      have hB2w := (hB.on hbk).on hB2
      clear hnk hbk hKM2 hbx hB2 HSO hKM hB hbl
      have hkc := hSk.cap
      have hkm := hSk.mx
      unfold maxLen at hkm
      go_loopw [6, 32] (fun v i wr => ∃ (q : Nat) (us : List (Key × Value)), i = .int .i64 q ∧ q ≤ nk ∧ us.length ≤ q ∧ OwnSL encD 4 wr w2.heap.size 57 v us ∧ DEl2 wr v.ownBlock us ((K.take q).flatMap (difOf l before after)) ∧ Below w2.heap.size w2 wr) (fun _ i _ => nk - (intOf i).toNat)
      case atStart => exact ⟨0, [], rfl, by omega, Nat.le_refl _, OwnSL.nil _ _ _ _ _, DEl2.nil _ _, Below.refl _ _⟩
      case round =>
        obtain ⟨q, us, rfl, hq, huq, hO, hD, hB⟩ := hrel
        by_cases hlt : q < nk
        · obtain ⟨bk, ok, rfl, hbk⟩ := hSk.at' (by omega)
          obtain ⟨k, hk⟩ := hSk.get hlt
          obtain ⟨e0, e1, e2⟩ := (hSk.below hB).keyC hk
          have HSTEP := Lib.hid (chg_step l before after hk)
          have k1 : (q : Int) < (nk : Int) := by omega
          have k0 : (0 : Int) ≤ (q : Int) := by omega
          obtain ⟨wv, hwv, hbv, hbox⟩ : ∃ wx, wr.alloc (.cells #[.int .i64 k.kd, .int .i64 k.sb, .int .i64 k.ob] 24) = wx ∧ Below wr.heap.size wr wx ∧ Box wx wr.heap.size #[.int .i64 k.kd, .int .i64 k.sb, .int .i64 k.ob] 24 := ⟨_, rfl, (Below.refl _ _).alloc (Nat.le_refl _) _, Box.new _ _ _⟩
          have hKwv : K3 wv wr.heap.size k := Box3 hbox
          have hBwv : Below w.heap.size w wv := (hB2w.on hB).on hbv
          obtain ⟨d0, d1, d2⟩ := id hKwv
          have HVa := Lib.hid (fun (W : World) (hW : Below w.heap.size w W) => values_any a0 j c0 l k before W (h0.below hW))
          have HVb := Lib.hid (fun (W : World) (hW : Below w.heap.size w W) => values_any a0 j c0 l k after W (h0.below hW))
          have hlA := rowV_len l k before
          have hsA := rowV_size l k before
          have hoA := all_oneCell_toArray (rowV_one l k before)
          have hlB := rowV_len l k after
          have hsB := rowV_size l k after
          have hoB := all_oneCell_toArray (rowV_one l k after)
          rw [Array.toArray_toList] at hoA hoB
          have HGA : Hid (∀ d : Nat, d < 1024 → (rowV l k before).toList[d]? = some (.int .i64 (valAt l k before d))) := Lib.hid fun d hd => rowV_list l k before hd
          have HGB : Hid (∀ d : Nat, d < 1024 → (rowV l k after).toList[d]? = some (.int .i64 (valAt l k after d))) := Lib.hid fun d hd => rowV_list l k after hd
          obtain ⟨A, hA⟩ : ∃ A, rowV l k before = A := ⟨_, rfl⟩
          obtain ⟨B, hBB⟩ : ∃ B, rowV l k after = B := ⟨_, rfl⟩
          rw [hA] at HVa hlA hsA hoA HGA
          rw [hBB] at HVb hlB hsB hoB HGB
          clear hA hBB hk hbox
          go_wp2_with fail
          go_step3
          go_wp2_with fail
          refine wp_post (fun a a' w' => ∃ B12 B13, a' = { tmps := (((((((((a.tmps.setIfInBounds 36 (.slice a0 j c0)).setIfInBounds 37 (.agg #[.int .i64 k.kd, .int .i64 k.sb, .int .i64 k.ob])).setIfInBounds 38 (.int .i64 before)).setIfInBounds 40 (.slice a0 j c0)).setIfInBounds 41 (.agg #[.int .i64 k.kd, .int .i64 k.sb, .int .i64 k.ob])).setIfInBounds 42 (.int .i64 after)).setIfInBounds 39 (.agg A)).setIfInBounds 43 (.agg B)).setIfInBounds 12 (.pointer (some ⟨B12, 0, none⟩))).setIfInBounds 13 (.pointer (some ⟨B13, 0, none⟩)), defers := a.defers } ∧ Fin2 wv w' B12 B13 A.toList B.toList) ?reg ?rest
          case reg =>
            refine wp_region_held_drew (S := fun w' => (w'.cell? ⟨wr.heap.size, 0, none⟩ = some (.int .i64 k.kd) ∧ w'.cell? ⟨wr.heap.size, 1, none⟩ = some (.int .i64 k.sb) ∧ w'.cell? ⟨wr.heap.size, 2, none⟩ = some (.int .i64 k.ob))) (by kernel_rfl) hKwv (fun hS => ?_)
            have hST := Two.start wv
            obtain ⟨Wc0, hW0⟩ : ∃ W0, wv.drew = W0 := ⟨_, rfl⟩
            rw [hW0] at hS hST ⊢
            clear hW0 d0 d1 d2
            refine wpAnyH_take (i := 0) (v := ?_) rfl (by kernel_rfl) (by kernel_rfl) (by kernel_rfl) (fun _ _ _ h => by cases h.1) (Or.inl ⟨by rfl, ?_⟩) (by assumption) ?_
            rotate_left
            focus
              intro w hSw
              (try dsimp only at hSw)
              (try go_split_ands)
              go_simp
              try with_reducible rfl
            try simp only [Act.put, List.getElem_toArray, List.getElem_cons_zero, List.setIfInBounds_toArray, List.set_cons_zero, List.set_cons_succ]
            refine wpAnyH_take (i := 1) (v := ?_) rfl (by kernel_rfl) (by kernel_rfl) (by kernel_rfl) (fun _ _ _ h => by cases h.1) (Or.inl ⟨by rfl, ?_⟩) (by assumption) ?_
            rotate_left
            focus
              intro w hSw
              (try dsimp only at hSw)
              (try go_split_ands)
              go_simp
              try with_reducible rfl
            try simp only [Act.put, List.getElem_toArray, List.getElem_cons_succ, List.getElem_cons_zero, List.setIfInBounds_toArray, List.set_cons_zero, List.set_cons_succ]
            refine wpAnyH_take (i := 2) (v := ?_) rfl (by kernel_rfl) (by kernel_rfl) (by kernel_rfl) (fun _ _ _ h => by cases h.1) (Or.inl ⟨by rfl, ?_⟩) (by assumption) ?_
            rotate_left
            focus
              intro w hSw
              (try dsimp only at hSw)
              (try go_split_ands)
              go_simp
              try with_reducible rfl
            try simp only [Act.put, List.getElem_toArray, List.getElem_cons_succ, List.getElem_cons_zero, List.setIfInBounds_toArray, List.set_cons_zero, List.set_cons_succ]
            refine wpAnyH_take (i := 4) (v := ?_) rfl (by kernel_rfl) (by kernel_rfl) (by kernel_rfl) (fun _ _ _ h => by cases h.1) (Or.inl ⟨by rfl, ?_⟩) (by assumption) ?_
            rotate_left
            focus
              intro w hSw
              (try dsimp only at hSw)
              (try go_split_ands)
              go_simp
              try with_reducible rfl
            try simp only [Act.put, List.getElem_toArray, List.getElem_cons_succ, List.getElem_cons_zero, List.setIfInBounds_toArray, List.set_cons_zero, List.set_cons_succ]
            refine wpAnyH_take (i := 5) (v := ?_) rfl (by kernel_rfl) (by kernel_rfl) (by kernel_rfl) (fun _ _ _ h => by cases h.1) (Or.inl ⟨by rfl, ?_⟩) (by assumption) ?_
            rotate_left
            focus
              intro w hSw
              (try dsimp only at hSw)
              (try go_split_ands)
              go_simp
              try with_reducible rfl
            try simp only [Act.put, List.getElem_toArray, List.getElem_cons_succ, List.getElem_cons_zero, List.setIfInBounds_toArray, List.set_cons_zero, List.set_cons_succ]
            refine wpAnyH_take (i := 6) (v := ?_) rfl (by kernel_rfl) (by kernel_rfl) (by kernel_rfl) (fun _ _ _ h => by cases h.1) (Or.inl ⟨by rfl, ?_⟩) (by assumption) ?_
            rotate_left
            focus
              intro w hSw
              (try dsimp only at hSw)
              (try go_split_ands)
              go_simp
              try with_reducible rfl
            try simp only [Act.put, List.getElem_toArray, List.getElem_cons_succ, List.getElem_cons_zero, List.setIfInBounds_toArray, List.set_cons_zero, List.set_cons_succ]
            refine wpAnyH_ready (rs := [3, 8, 9]) (by kernel_rfl) (by simp) (AllReadyH.cons rfl (fun K hK => ?_) (AllReadyH.cons rfl (fun K hK => ?_) (AllReadyH.cons rfl (fun K hK => ?_) AllReadyH.nil)))
            · go_simp
              go_at_call 39
              refine (HVa.out _ (hBwv.on hST.below)).mono ?_
              rintro e Wc1 ⟨rfl, hb⟩
              have hST := hST.call hb
              refine hK.out _ _ (K3.below hS hb) (fun hS => ?_)
              clear hK K hb
              try simp only [Act.put, List.getElem_toArray, List.getElem_cons_succ, List.getElem_cons_zero, List.setIfInBounds_toArray, List.set_cons_zero, List.set_cons_succ]
              refine wpAnyH_ready (rs := [7, 8, 9]) (by kernel_rfl) (by simp) (AllReadyH.cons rfl (fun K hK => ?_) (AllReadyH.cons rfl (fun K hK => ?_) (AllReadyH.cons rfl (fun K hK => ?_) AllReadyH.nil)))
              · go_simp
                go_at_call 39
                refine (HVb.out _ (hBwv.on hST.below)).mono ?_
                rintro e Wc2 ⟨rfl, hb⟩
                have hST := hST.call hb
                refine hK.out _ _ (K3.below hS hb) (fun hS => ?_)
                clear hK K hb
                try simp only [Act.put, List.getElem_toArray, List.getElem_cons_succ, List.getElem_cons_zero, List.setIfInBounds_toArray, List.set_cons_zero, List.set_cons_succ]
                refine wpAnyH_ready (rs := [8, 9]) (by kernel_rfl) (by simp) (AllReadyH.cons rfl (fun K hK => ?_) (AllReadyH.cons rfl (fun K hK => ?_) AllReadyH.nil))
                · go_simp
                  refine hK.out _ _ (K3.below hS ((Below.refl _ _).alloc (Nat.le_refl _) _)) (fun hS => ?_)
                  have hST := hST.first
                  clear hK K
                  try simp only [Act.put, List.getElem_toArray, List.getElem_cons_succ, List.getElem_cons_zero, List.setIfInBounds_toArray, List.set_cons_zero, List.set_cons_succ]
                  obtain ⟨Wc3, hWn⟩ : ∃ Wn, Wc2.alloc (.cells Try.zeroCells70 70) = Wn := ⟨_, rfl⟩
                  obtain ⟨B12, hBn⟩ : ∃ b, Wc2.heap.size = b := ⟨_, rfl⟩
                  rw [hWn] at hST hS ⊢
                  rw [hBn] at hST ⊢
                  clear hWn hBn
                  refine wpAnyH_ready (rs := [9]) (by kernel_rfl) (by simp) (AllReadyH.cons rfl (fun K hK => ?_) AllReadyH.nil)
                  · go_simp
                    refine hK.out _ _ (K3.below hS ((Below.refl _ _).alloc (Nat.le_refl _) _)) (fun hS => ?_)
                    have hST := hST.second
                    clear hK K
                    try simp only [Act.put, List.getElem_toArray, List.getElem_cons_succ, List.getElem_cons_zero, List.setIfInBounds_toArray, List.set_cons_zero, List.set_cons_succ]
                    obtain ⟨Wc4, hWn⟩ : ∃ Wn, Wc3.alloc (.cells Try.zeroCells70 70) = Wn := ⟨_, rfl⟩
                    obtain ⟨B13, hBn⟩ : ∃ b, Wc3.heap.size = b := ⟨_, rfl⟩
                    rw [hWn] at hST hS ⊢
                    rw [hBn] at hST ⊢
                    clear hWn hBn
                    refine wpAnyH_ready (rs := [10]) (by kernel_rfl) (by simp) (AllReadyH.cons rfl (fun K hK => ?_) AllReadyH.nil)
                    rw [if_pos (by rfl)]
                    refine wp_store_mid 70 _ _ rfl B12 0 A rfl rfl (by rw [hsA]; exact (hST.fst _ rfl).2.2) (by rw [hsA]; exact info_row) hoA ?_
                    refine hK.out _ _ (K3.below hKwv (below_setCells (hST.fst _ rfl).1 _ _ _ hST.below)) (fun hS => ?_)
                    clear hK K
                    try simp only [Act.put, List.getElem_toArray, List.getElem_cons_succ, List.getElem_cons_zero]
                    refine wpAnyH_ready (rs := [11]) (by kernel_rfl) (by simp) (AllReadyH.cons rfl (fun K hK => ?_) AllReadyH.nil)
                    rw [if_pos (by rfl)]
                    refine wp_store_mid 70 _ _ rfl B13 0 B rfl rfl (by rw [hsB]; exact World.there_setCells (hST.snd _ rfl).2.2 _ _ _) (by rw [hsB]; exact info_row) hoB ?_
                    refine hK.out _ _ (K3.below hKwv (below_setCells (hST.snd _ rfl).1 _ _ _ (below_setCells (hST.fst _ rfl).1 _ _ _ hST.below))) (fun hS => ?_)
                    clear hK K
                    try simp only [Act.put, List.getElem_toArray, List.getElem_cons_succ, List.getElem_cons_zero]
                    refine wpAnyH_done (by kernel_rfl) ?_ _
                    exact ⟨rfl, B12, B13, rfl, hST.fin hlA hlB⟩
                · go_simp
                  refine hK.out _ _ (K3.below hS ((Below.refl _ _).alloc (Nat.le_refl _) _)) (fun hS => ?_)
                  have hST := hST.second
                  clear hK K
                  try simp only [Act.put, List.getElem_toArray, List.getElem_cons_succ, List.getElem_cons_zero, List.setIfInBounds_toArray, List.set_cons_zero, List.set_cons_succ]
                  obtain ⟨Wc3, hWn⟩ : ∃ Wn, Wc2.alloc (.cells Try.zeroCells70 70) = Wn := ⟨_, rfl⟩
                  obtain ⟨B13, hBn⟩ : ∃ b, Wc2.heap.size = b := ⟨_, rfl⟩
                  rw [hWn] at hST hS ⊢
                  rw [hBn] at hST ⊢
                  clear hWn hBn
                  refine wpAnyH_ready (rs := [8]) (by kernel_rfl) (by simp) (AllReadyH.cons rfl (fun K hK => ?_) AllReadyH.nil)
                  · go_simp
                    refine hK.out _ _ (K3.below hS ((Below.refl _ _).alloc (Nat.le_refl _) _)) (fun hS => ?_)
                    have hST := hST.first
                    clear hK K
                    try simp only [Act.put, List.getElem_toArray, List.getElem_cons_succ, List.getElem_cons_zero, List.setIfInBounds_toArray, List.set_cons_zero, List.set_cons_succ]
                    obtain ⟨Wc4, hWn⟩ : ∃ Wn, Wc3.alloc (.cells Try.zeroCells70 70) = Wn := ⟨_, rfl⟩
                    obtain ⟨B12, hBn⟩ : ∃ b, Wc3.heap.size = b := ⟨_, rfl⟩
                    rw [hWn] at hST hS ⊢
                    rw [hBn] at hST ⊢
                    clear hWn hBn
                    refine wpAnyH_ready (rs := [10]) (by kernel_rfl) (by simp) (AllReadyH.cons rfl (fun K hK => ?_) AllReadyH.nil)
                    rw [if_pos (by rfl)]
                    refine wp_store_mid 70 _ _ rfl B12 0 A rfl rfl (by rw [hsA]; exact (hST.fst _ rfl).2.2) (by rw [hsA]; exact info_row) hoA ?_
                    refine hK.out _ _ (K3.below hKwv (below_setCells (hST.fst _ rfl).1 _ _ _ hST.below)) (fun hS => ?_)
                    clear hK K
                    try simp only [Act.put, List.getElem_toArray, List.getElem_cons_succ, List.getElem_cons_zero]
                    refine wpAnyH_ready (rs := [11]) (by kernel_rfl) (by simp) (AllReadyH.cons rfl (fun K hK => ?_) AllReadyH.nil)
                    rw [if_pos (by rfl)]
                    refine wp_store_mid 70 _ _ rfl B13 0 B rfl rfl (by rw [hsB]; exact World.there_setCells (hST.snd _ rfl).2.2 _ _ _) (by rw [hsB]; exact info_row) hoB ?_
                    refine hK.out _ _ (K3.below hKwv (below_setCells (hST.snd _ rfl).1 _ _ _ (below_setCells (hST.fst _ rfl).1 _ _ _ hST.below))) (fun hS => ?_)
                    clear hK K
                    try simp only [Act.put, List.getElem_toArray, List.getElem_cons_succ, List.getElem_cons_zero]
                    refine wpAnyH_done (by kernel_rfl) ?_ _
                    exact ⟨rfl, B12, B13, rfl, hST.fin hlA hlB⟩
              · go_simp
                refine hK.out _ _ (K3.below hS ((Below.refl _ _).alloc (Nat.le_refl _) _)) (fun hS => ?_)
                have hST := hST.first
                clear hK K
                try simp only [Act.put, List.getElem_toArray, List.getElem_cons_succ, List.getElem_cons_zero, List.setIfInBounds_toArray, List.set_cons_zero, List.set_cons_succ]
                obtain ⟨Wc2, hWn⟩ : ∃ Wn, Wc1.alloc (.cells Try.zeroCells70 70) = Wn := ⟨_, rfl⟩
                obtain ⟨B12, hBn⟩ : ∃ b, Wc1.heap.size = b := ⟨_, rfl⟩
                rw [hWn] at hST hS ⊢
                rw [hBn] at hST ⊢
                clear hWn hBn
                refine wpAnyH_ready (rs := [7, 9]) (by kernel_rfl) (by simp) (AllReadyH.cons rfl (fun K hK => ?_) (AllReadyH.cons rfl (fun K hK => ?_) AllReadyH.nil))
                · go_simp
                  go_at_call 39
                  refine (HVb.out _ (hBwv.on hST.below)).mono ?_
                  rintro e Wc3 ⟨rfl, hb⟩
                  have hST := hST.call hb
                  refine hK.out _ _ (K3.below hS hb) (fun hS => ?_)
                  clear hK K hb
                  try simp only [Act.put, List.getElem_toArray, List.getElem_cons_succ, List.getElem_cons_zero, List.setIfInBounds_toArray, List.set_cons_zero, List.set_cons_succ]
                  refine wpAnyH_ready (rs := [9]) (by kernel_rfl) (by simp) (AllReadyH.cons rfl (fun K hK => ?_) AllReadyH.nil)
                  · go_simp
                    refine hK.out _ _ (K3.below hS ((Below.refl _ _).alloc (Nat.le_refl _) _)) (fun hS => ?_)
                    have hST := hST.second
                    clear hK K
                    try simp only [Act.put, List.getElem_toArray, List.getElem_cons_succ, List.getElem_cons_zero, List.setIfInBounds_toArray, List.set_cons_zero, List.set_cons_succ]
                    obtain ⟨Wc4, hWn⟩ : ∃ Wn, Wc3.alloc (.cells Try.zeroCells70 70) = Wn := ⟨_, rfl⟩
                    obtain ⟨B13, hBn⟩ : ∃ b, Wc3.heap.size = b := ⟨_, rfl⟩
                    rw [hWn] at hST hS ⊢
                    rw [hBn] at hST ⊢
                    clear hWn hBn
                    refine wpAnyH_ready (rs := [10]) (by kernel_rfl) (by simp) (AllReadyH.cons rfl (fun K hK => ?_) AllReadyH.nil)
                    rw [if_pos (by rfl)]
                    refine wp_store_mid 70 _ _ rfl B12 0 A rfl rfl (by rw [hsA]; exact (hST.fst _ rfl).2.2) (by rw [hsA]; exact info_row) hoA ?_
                    refine hK.out _ _ (K3.below hKwv (below_setCells (hST.fst _ rfl).1 _ _ _ hST.below)) (fun hS => ?_)
                    clear hK K
                    try simp only [Act.put, List.getElem_toArray, List.getElem_cons_succ, List.getElem_cons_zero]
                    refine wpAnyH_ready (rs := [11]) (by kernel_rfl) (by simp) (AllReadyH.cons rfl (fun K hK => ?_) AllReadyH.nil)
                    rw [if_pos (by rfl)]
                    refine wp_store_mid 70 _ _ rfl B13 0 B rfl rfl (by rw [hsB]; exact World.there_setCells (hST.snd _ rfl).2.2 _ _ _) (by rw [hsB]; exact info_row) hoB ?_
                    refine hK.out _ _ (K3.below hKwv (below_setCells (hST.snd _ rfl).1 _ _ _ (below_setCells (hST.fst _ rfl).1 _ _ _ hST.below))) (fun hS => ?_)
                    clear hK K
                    try simp only [Act.put, List.getElem_toArray, List.getElem_cons_succ, List.getElem_cons_zero]
                    refine wpAnyH_done (by kernel_rfl) ?_ _
                    exact ⟨rfl, B12, B13, rfl, hST.fin hlA hlB⟩
                · go_simp
                  refine hK.out _ _ (K3.below hS ((Below.refl _ _).alloc (Nat.le_refl _) _)) (fun hS => ?_)
                  have hST := hST.second
                  clear hK K
                  try simp only [Act.put, List.getElem_toArray, List.getElem_cons_succ, List.getElem_cons_zero, List.setIfInBounds_toArray, List.set_cons_zero, List.set_cons_succ]
                  obtain ⟨Wc3, hWn⟩ : ∃ Wn, Wc2.alloc (.cells Try.zeroCells70 70) = Wn := ⟨_, rfl⟩
                  obtain ⟨B13, hBn⟩ : ∃ b, Wc2.heap.size = b := ⟨_, rfl⟩
                  rw [hWn] at hST hS ⊢
                  rw [hBn] at hST ⊢
                  clear hWn hBn
                  refine wpAnyH_ready (rs := [7]) (by kernel_rfl) (by simp) (AllReadyH.cons rfl (fun K hK => ?_) AllReadyH.nil)
                  · go_simp
                    go_at_call 39
                    refine (HVb.out _ (hBwv.on hST.below)).mono ?_
                    rintro e Wc4 ⟨rfl, hb⟩
                    have hST := hST.call hb
                    refine hK.out _ _ (K3.below hS hb) (fun hS => ?_)
                    clear hK K hb
                    try simp only [Act.put, List.getElem_toArray, List.getElem_cons_succ, List.getElem_cons_zero, List.setIfInBounds_toArray, List.set_cons_zero, List.set_cons_succ]
                    refine wpAnyH_ready (rs := [10]) (by kernel_rfl) (by simp) (AllReadyH.cons rfl (fun K hK => ?_) AllReadyH.nil)
                    rw [if_pos (by rfl)]
                    refine wp_store_mid 70 _ _ rfl B12 0 A rfl rfl (by rw [hsA]; exact (hST.fst _ rfl).2.2) (by rw [hsA]; exact info_row) hoA ?_
                    refine hK.out _ _ (K3.below hKwv (below_setCells (hST.fst _ rfl).1 _ _ _ hST.below)) (fun hS => ?_)
                    clear hK K
                    try simp only [Act.put, List.getElem_toArray, List.getElem_cons_succ, List.getElem_cons_zero]
                    refine wpAnyH_ready (rs := [11]) (by kernel_rfl) (by simp) (AllReadyH.cons rfl (fun K hK => ?_) AllReadyH.nil)
                    rw [if_pos (by rfl)]
                    refine wp_store_mid 70 _ _ rfl B13 0 B rfl rfl (by rw [hsB]; exact World.there_setCells (hST.snd _ rfl).2.2 _ _ _) (by rw [hsB]; exact info_row) hoB ?_
                    refine hK.out _ _ (K3.below hKwv (below_setCells (hST.snd _ rfl).1 _ _ _ (below_setCells (hST.fst _ rfl).1 _ _ _ hST.below))) (fun hS => ?_)
                    clear hK K
                    try simp only [Act.put, List.getElem_toArray, List.getElem_cons_succ, List.getElem_cons_zero]
                    refine wpAnyH_done (by kernel_rfl) ?_ _
                    exact ⟨rfl, B12, B13, rfl, hST.fin hlA hlB⟩
              · go_simp
                refine hK.out _ _ (K3.below hS ((Below.refl _ _).alloc (Nat.le_refl _) _)) (fun hS => ?_)
                have hST := hST.second
                clear hK K
                try simp only [Act.put, List.getElem_toArray, List.getElem_cons_succ, List.getElem_cons_zero, List.setIfInBounds_toArray, List.set_cons_zero, List.set_cons_succ]
                obtain ⟨Wc2, hWn⟩ : ∃ Wn, Wc1.alloc (.cells Try.zeroCells70 70) = Wn := ⟨_, rfl⟩
                obtain ⟨B13, hBn⟩ : ∃ b, Wc1.heap.size = b := ⟨_, rfl⟩
                rw [hWn] at hST hS ⊢
                rw [hBn] at hST ⊢
                clear hWn hBn
                refine wpAnyH_ready (rs := [7, 8]) (by kernel_rfl) (by simp) (AllReadyH.cons rfl (fun K hK => ?_) (AllReadyH.cons rfl (fun K hK => ?_) AllReadyH.nil))
                · go_simp
                  go_at_call 39
                  refine (HVb.out _ (hBwv.on hST.below)).mono ?_
                  rintro e Wc3 ⟨rfl, hb⟩
                  have hST := hST.call hb
                  refine hK.out _ _ (K3.below hS hb) (fun hS => ?_)
                  clear hK K hb
                  try simp only [Act.put, List.getElem_toArray, List.getElem_cons_succ, List.getElem_cons_zero, List.setIfInBounds_toArray, List.set_cons_zero, List.set_cons_succ]
                  refine wpAnyH_ready (rs := [8]) (by kernel_rfl) (by simp) (AllReadyH.cons rfl (fun K hK => ?_) AllReadyH.nil)
                  · go_simp
                    refine hK.out _ _ (K3.below hS ((Below.refl _ _).alloc (Nat.le_refl _) _)) (fun hS => ?_)
                    have hST := hST.first
                    clear hK K
                    try simp only [Act.put, List.getElem_toArray, List.getElem_cons_succ, List.getElem_cons_zero, List.setIfInBounds_toArray, List.set_cons_zero, List.set_cons_succ]
                    obtain ⟨Wc4, hWn⟩ : ∃ Wn, Wc3.alloc (.cells Try.zeroCells70 70) = Wn := ⟨_, rfl⟩
                    obtain ⟨B12, hBn⟩ : ∃ b, Wc3.heap.size = b := ⟨_, rfl⟩
                    rw [hWn] at hST hS ⊢
                    rw [hBn] at hST ⊢
                    clear hWn hBn
                    refine wpAnyH_ready (rs := [10]) (by kernel_rfl) (by simp) (AllReadyH.cons rfl (fun K hK => ?_) AllReadyH.nil)
                    rw [if_pos (by rfl)]
                    refine wp_store_mid 70 _ _ rfl B12 0 A rfl rfl (by rw [hsA]; exact (hST.fst _ rfl).2.2) (by rw [hsA]; exact info_row) hoA ?_
                    refine hK.out _ _ (K3.below hKwv (below_setCells (hST.fst _ rfl).1 _ _ _ hST.below)) (fun hS => ?_)
                    clear hK K
                    try simp only [Act.put, List.getElem_toArray, List.getElem_cons_succ, List.getElem_cons_zero]
                    refine wpAnyH_ready (rs := [11]) (by kernel_rfl) (by simp) (AllReadyH.cons rfl (fun K hK => ?_) AllReadyH.nil)
                    rw [if_pos (by rfl)]
                    refine wp_store_mid 70 _ _ rfl B13 0 B rfl rfl (by rw [hsB]; exact World.there_setCells (hST.snd _ rfl).2.2 _ _ _) (by rw [hsB]; exact info_row) hoB ?_
                    refine hK.out _ _ (K3.below hKwv (below_setCells (hST.snd _ rfl).1 _ _ _ (below_setCells (hST.fst _ rfl).1 _ _ _ hST.below))) (fun hS => ?_)
                    clear hK K
                    try simp only [Act.put, List.getElem_toArray, List.getElem_cons_succ, List.getElem_cons_zero]
                    refine wpAnyH_done (by kernel_rfl) ?_ _
                    exact ⟨rfl, B12, B13, rfl, hST.fin hlA hlB⟩
                · go_simp
                  refine hK.out _ _ (K3.below hS ((Below.refl _ _).alloc (Nat.le_refl _) _)) (fun hS => ?_)
                  have hST := hST.first
                  clear hK K
                  try simp only [Act.put, List.getElem_toArray, List.getElem_cons_succ, List.getElem_cons_zero, List.setIfInBounds_toArray, List.set_cons_zero, List.set_cons_succ]
                  obtain ⟨Wc3, hWn⟩ : ∃ Wn, Wc2.alloc (.cells Try.zeroCells70 70) = Wn := ⟨_, rfl⟩
                  obtain ⟨B12, hBn⟩ : ∃ b, Wc2.heap.size = b := ⟨_, rfl⟩
                  rw [hWn] at hST hS ⊢
                  rw [hBn] at hST ⊢
                  clear hWn hBn
                  refine wpAnyH_ready (rs := [7]) (by kernel_rfl) (by simp) (AllReadyH.cons rfl (fun K hK => ?_) AllReadyH.nil)
                  · go_simp
                    go_at_call 39
                    refine (HVb.out _ (hBwv.on hST.below)).mono ?_
                    rintro e Wc4 ⟨rfl, hb⟩
                    have hST := hST.call hb
                    refine hK.out _ _ (K3.below hS hb) (fun hS => ?_)
                    clear hK K hb
                    try simp only [Act.put, List.getElem_toArray, List.getElem_cons_succ, List.getElem_cons_zero, List.setIfInBounds_toArray, List.set_cons_zero, List.set_cons_succ]
                    refine wpAnyH_ready (rs := [10]) (by kernel_rfl) (by simp) (AllReadyH.cons rfl (fun K hK => ?_) AllReadyH.nil)
                    rw [if_pos (by rfl)]
                    refine wp_store_mid 70 _ _ rfl B12 0 A rfl rfl (by rw [hsA]; exact (hST.fst _ rfl).2.2) (by rw [hsA]; exact info_row) hoA ?_
                    refine hK.out _ _ (K3.below hKwv (below_setCells (hST.fst _ rfl).1 _ _ _ hST.below)) (fun hS => ?_)
                    clear hK K
                    try simp only [Act.put, List.getElem_toArray, List.getElem_cons_succ, List.getElem_cons_zero]
                    refine wpAnyH_ready (rs := [11]) (by kernel_rfl) (by simp) (AllReadyH.cons rfl (fun K hK => ?_) AllReadyH.nil)
                    rw [if_pos (by rfl)]
                    refine wp_store_mid 70 _ _ rfl B13 0 B rfl rfl (by rw [hsB]; exact World.there_setCells (hST.snd _ rfl).2.2 _ _ _) (by rw [hsB]; exact info_row) hoB ?_
                    refine hK.out _ _ (K3.below hKwv (below_setCells (hST.snd _ rfl).1 _ _ _ (below_setCells (hST.fst _ rfl).1 _ _ _ hST.below))) (fun hS => ?_)
                    clear hK K
                    try simp only [Act.put, List.getElem_toArray, List.getElem_cons_succ, List.getElem_cons_zero]
                    refine wpAnyH_done (by kernel_rfl) ?_ _
                    exact ⟨rfl, B12, B13, rfl, hST.fin hlA hlB⟩
            · go_simp
              refine hK.out _ _ (K3.below hS ((Below.refl _ _).alloc (Nat.le_refl _) _)) (fun hS => ?_)
              have hST := hST.first
              clear hK K
              try simp only [Act.put, List.getElem_toArray, List.getElem_cons_succ, List.getElem_cons_zero, List.setIfInBounds_toArray, List.set_cons_zero, List.set_cons_succ]
              obtain ⟨Wc1, hWn⟩ : ∃ Wn, Wc0.alloc (.cells Try.zeroCells70 70) = Wn := ⟨_, rfl⟩
              obtain ⟨B12, hBn⟩ : ∃ b, Wc0.heap.size = b := ⟨_, rfl⟩
              rw [hWn] at hST hS ⊢
              rw [hBn] at hST ⊢
              clear hWn hBn
              refine wpAnyH_ready (rs := [3, 9]) (by kernel_rfl) (by simp) (AllReadyH.cons rfl (fun K hK => ?_) (AllReadyH.cons rfl (fun K hK => ?_) AllReadyH.nil))
              · go_simp
                go_at_call 39
                refine (HVa.out _ (hBwv.on hST.below)).mono ?_
                rintro e Wc2 ⟨rfl, hb⟩
                have hST := hST.call hb
                refine hK.out _ _ (K3.below hS hb) (fun hS => ?_)
                clear hK K hb
                try simp only [Act.put, List.getElem_toArray, List.getElem_cons_succ, List.getElem_cons_zero, List.setIfInBounds_toArray, List.set_cons_zero, List.set_cons_succ]
                refine wpAnyH_ready (rs := [7, 9]) (by kernel_rfl) (by simp) (AllReadyH.cons rfl (fun K hK => ?_) (AllReadyH.cons rfl (fun K hK => ?_) AllReadyH.nil))
                · go_simp
                  go_at_call 39
                  refine (HVb.out _ (hBwv.on hST.below)).mono ?_
                  rintro e Wc3 ⟨rfl, hb⟩
                  have hST := hST.call hb
                  refine hK.out _ _ (K3.below hS hb) (fun hS => ?_)
                  clear hK K hb
                  try simp only [Act.put, List.getElem_toArray, List.getElem_cons_succ, List.getElem_cons_zero, List.setIfInBounds_toArray, List.set_cons_zero, List.set_cons_succ]
                  refine wpAnyH_ready (rs := [9]) (by kernel_rfl) (by simp) (AllReadyH.cons rfl (fun K hK => ?_) AllReadyH.nil)
                  · go_simp
                    refine hK.out _ _ (K3.below hS ((Below.refl _ _).alloc (Nat.le_refl _) _)) (fun hS => ?_)
                    have hST := hST.second
                    clear hK K
                    try simp only [Act.put, List.getElem_toArray, List.getElem_cons_succ, List.getElem_cons_zero, List.setIfInBounds_toArray, List.set_cons_zero, List.set_cons_succ]
                    obtain ⟨Wc4, hWn⟩ : ∃ Wn, Wc3.alloc (.cells Try.zeroCells70 70) = Wn := ⟨_, rfl⟩
                    obtain ⟨B13, hBn⟩ : ∃ b, Wc3.heap.size = b := ⟨_, rfl⟩
                    rw [hWn] at hST hS ⊢
                    rw [hBn] at hST ⊢
                    clear hWn hBn
                    refine wpAnyH_ready (rs := [10]) (by kernel_rfl) (by simp) (AllReadyH.cons rfl (fun K hK => ?_) AllReadyH.nil)
                    rw [if_pos (by rfl)]
                    refine wp_store_mid 70 _ _ rfl B12 0 A rfl rfl (by rw [hsA]; exact (hST.fst _ rfl).2.2) (by rw [hsA]; exact info_row) hoA ?_
                    refine hK.out _ _ (K3.below hKwv (below_setCells (hST.fst _ rfl).1 _ _ _ hST.below)) (fun hS => ?_)
                    clear hK K
                    try simp only [Act.put, List.getElem_toArray, List.getElem_cons_succ, List.getElem_cons_zero]
                    refine wpAnyH_ready (rs := [11]) (by kernel_rfl) (by simp) (AllReadyH.cons rfl (fun K hK => ?_) AllReadyH.nil)
                    rw [if_pos (by rfl)]
                    refine wp_store_mid 70 _ _ rfl B13 0 B rfl rfl (by rw [hsB]; exact World.there_setCells (hST.snd _ rfl).2.2 _ _ _) (by rw [hsB]; exact info_row) hoB ?_
                    refine hK.out _ _ (K3.below hKwv (below_setCells (hST.snd _ rfl).1 _ _ _ (below_setCells (hST.fst _ rfl).1 _ _ _ hST.below))) (fun hS => ?_)
                    clear hK K
                    try simp only [Act.put, List.getElem_toArray, List.getElem_cons_succ, List.getElem_cons_zero]
                    refine wpAnyH_done (by kernel_rfl) ?_ _
                    exact ⟨rfl, B12, B13, rfl, hST.fin hlA hlB⟩
                · go_simp
                  refine hK.out _ _ (K3.below hS ((Below.refl _ _).alloc (Nat.le_refl _) _)) (fun hS => ?_)
                  have hST := hST.second
                  clear hK K
                  try simp only [Act.put, List.getElem_toArray, List.getElem_cons_succ, List.getElem_cons_zero, List.setIfInBounds_toArray, List.set_cons_zero, List.set_cons_succ]
                  obtain ⟨Wc3, hWn⟩ : ∃ Wn, Wc2.alloc (.cells Try.zeroCells70 70) = Wn := ⟨_, rfl⟩
                  obtain ⟨B13, hBn⟩ : ∃ b, Wc2.heap.size = b := ⟨_, rfl⟩
                  rw [hWn] at hST hS ⊢
                  rw [hBn] at hST ⊢
                  clear hWn hBn
                  refine wpAnyH_ready (rs := [7]) (by kernel_rfl) (by simp) (AllReadyH.cons rfl (fun K hK => ?_) AllReadyH.nil)
                  · go_simp
                    go_at_call 39
                    refine (HVb.out _ (hBwv.on hST.below)).mono ?_
                    rintro e Wc4 ⟨rfl, hb⟩
                    have hST := hST.call hb
                    refine hK.out _ _ (K3.below hS hb) (fun hS => ?_)
                    clear hK K hb
                    try simp only [Act.put, List.getElem_toArray, List.getElem_cons_succ, List.getElem_cons_zero, List.setIfInBounds_toArray, List.set_cons_zero, List.set_cons_succ]
                    refine wpAnyH_ready (rs := [10]) (by kernel_rfl) (by simp) (AllReadyH.cons rfl (fun K hK => ?_) AllReadyH.nil)
                    rw [if_pos (by rfl)]
                    refine wp_store_mid 70 _ _ rfl B12 0 A rfl rfl (by rw [hsA]; exact (hST.fst _ rfl).2.2) (by rw [hsA]; exact info_row) hoA ?_
                    refine hK.out _ _ (K3.below hKwv (below_setCells (hST.fst _ rfl).1 _ _ _ hST.below)) (fun hS => ?_)
                    clear hK K
                    try simp only [Act.put, List.getElem_toArray, List.getElem_cons_succ, List.getElem_cons_zero]
                    refine wpAnyH_ready (rs := [11]) (by kernel_rfl) (by simp) (AllReadyH.cons rfl (fun K hK => ?_) AllReadyH.nil)
                    rw [if_pos (by rfl)]
                    refine wp_store_mid 70 _ _ rfl B13 0 B rfl rfl (by rw [hsB]; exact World.there_setCells (hST.snd _ rfl).2.2 _ _ _) (by rw [hsB]; exact info_row) hoB ?_
                    refine hK.out _ _ (K3.below hKwv (below_setCells (hST.snd _ rfl).1 _ _ _ (below_setCells (hST.fst _ rfl).1 _ _ _ hST.below))) (fun hS => ?_)
                    clear hK K
                    try simp only [Act.put, List.getElem_toArray, List.getElem_cons_succ, List.getElem_cons_zero]
                    refine wpAnyH_done (by kernel_rfl) ?_ _
                    exact ⟨rfl, B12, B13, rfl, hST.fin hlA hlB⟩
              · go_simp
                refine hK.out _ _ (K3.below hS ((Below.refl _ _).alloc (Nat.le_refl _) _)) (fun hS => ?_)
                have hST := hST.second
                clear hK K
                try simp only [Act.put, List.getElem_toArray, List.getElem_cons_succ, List.getElem_cons_zero, List.setIfInBounds_toArray, List.set_cons_zero, List.set_cons_succ]
                obtain ⟨Wc2, hWn⟩ : ∃ Wn, Wc1.alloc (.cells Try.zeroCells70 70) = Wn := ⟨_, rfl⟩
                obtain ⟨B13, hBn⟩ : ∃ b, Wc1.heap.size = b := ⟨_, rfl⟩
                rw [hWn] at hST hS ⊢
                rw [hBn] at hST ⊢
                clear hWn hBn
                refine wpAnyH_ready (rs := [3]) (by kernel_rfl) (by simp) (AllReadyH.cons rfl (fun K hK => ?_) AllReadyH.nil)
                · go_simp
                  go_at_call 39
                  refine (HVa.out _ (hBwv.on hST.below)).mono ?_
                  rintro e Wc3 ⟨rfl, hb⟩
                  have hST := hST.call hb
                  refine hK.out _ _ (K3.below hS hb) (fun hS => ?_)
                  clear hK K hb
                  try simp only [Act.put, List.getElem_toArray, List.getElem_cons_succ, List.getElem_cons_zero, List.setIfInBounds_toArray, List.set_cons_zero, List.set_cons_succ]
                  refine wpAnyH_ready (rs := [7]) (by kernel_rfl) (by simp) (AllReadyH.cons rfl (fun K hK => ?_) AllReadyH.nil)
                  · go_simp
                    go_at_call 39
                    refine (HVb.out _ (hBwv.on hST.below)).mono ?_
                    rintro e Wc4 ⟨rfl, hb⟩
                    have hST := hST.call hb
                    refine hK.out _ _ (K3.below hS hb) (fun hS => ?_)
                    clear hK K hb
                    try simp only [Act.put, List.getElem_toArray, List.getElem_cons_succ, List.getElem_cons_zero, List.setIfInBounds_toArray, List.set_cons_zero, List.set_cons_succ]
                    refine wpAnyH_ready (rs := [10]) (by kernel_rfl) (by simp) (AllReadyH.cons rfl (fun K hK => ?_) AllReadyH.nil)
                    rw [if_pos (by rfl)]
                    refine wp_store_mid 70 _ _ rfl B12 0 A rfl rfl (by rw [hsA]; exact (hST.fst _ rfl).2.2) (by rw [hsA]; exact info_row) hoA ?_
                    refine hK.out _ _ (K3.below hKwv (below_setCells (hST.fst _ rfl).1 _ _ _ hST.below)) (fun hS => ?_)
                    clear hK K
                    try simp only [Act.put, List.getElem_toArray, List.getElem_cons_succ, List.getElem_cons_zero]
                    refine wpAnyH_ready (rs := [11]) (by kernel_rfl) (by simp) (AllReadyH.cons rfl (fun K hK => ?_) AllReadyH.nil)
                    rw [if_pos (by rfl)]
                    refine wp_store_mid 70 _ _ rfl B13 0 B rfl rfl (by rw [hsB]; exact World.there_setCells (hST.snd _ rfl).2.2 _ _ _) (by rw [hsB]; exact info_row) hoB ?_
                    refine hK.out _ _ (K3.below hKwv (below_setCells (hST.snd _ rfl).1 _ _ _ (below_setCells (hST.fst _ rfl).1 _ _ _ hST.below))) (fun hS => ?_)
                    clear hK K
                    try simp only [Act.put, List.getElem_toArray, List.getElem_cons_succ, List.getElem_cons_zero]
                    refine wpAnyH_done (by kernel_rfl) ?_ _
                    exact ⟨rfl, B12, B13, rfl, hST.fin hlA hlB⟩
            · go_simp
              refine hK.out _ _ (K3.below hS ((Below.refl _ _).alloc (Nat.le_refl _) _)) (fun hS => ?_)
              have hST := hST.second
              clear hK K
              try simp only [Act.put, List.getElem_toArray, List.getElem_cons_succ, List.getElem_cons_zero, List.setIfInBounds_toArray, List.set_cons_zero, List.set_cons_succ]
              obtain ⟨Wc1, hWn⟩ : ∃ Wn, Wc0.alloc (.cells Try.zeroCells70 70) = Wn := ⟨_, rfl⟩
              obtain ⟨B13, hBn⟩ : ∃ b, Wc0.heap.size = b := ⟨_, rfl⟩
              rw [hWn] at hST hS ⊢
              rw [hBn] at hST ⊢
              clear hWn hBn
              refine wpAnyH_ready (rs := [3, 8]) (by kernel_rfl) (by simp) (AllReadyH.cons rfl (fun K hK => ?_) (AllReadyH.cons rfl (fun K hK => ?_) AllReadyH.nil))
              · go_simp
                go_at_call 39
                refine (HVa.out _ (hBwv.on hST.below)).mono ?_
                rintro e Wc2 ⟨rfl, hb⟩
                have hST := hST.call hb
                refine hK.out _ _ (K3.below hS hb) (fun hS => ?_)
                clear hK K hb
                try simp only [Act.put, List.getElem_toArray, List.getElem_cons_succ, List.getElem_cons_zero, List.setIfInBounds_toArray, List.set_cons_zero, List.set_cons_succ]
                refine wpAnyH_ready (rs := [7, 8]) (by kernel_rfl) (by simp) (AllReadyH.cons rfl (fun K hK => ?_) (AllReadyH.cons rfl (fun K hK => ?_) AllReadyH.nil))
                · go_simp
                  go_at_call 39
                  refine (HVb.out _ (hBwv.on hST.below)).mono ?_
                  rintro e Wc3 ⟨rfl, hb⟩
                  have hST := hST.call hb
                  refine hK.out _ _ (K3.below hS hb) (fun hS => ?_)
                  clear hK K hb
                  try simp only [Act.put, List.getElem_toArray, List.getElem_cons_succ, List.getElem_cons_zero, List.setIfInBounds_toArray, List.set_cons_zero, List.set_cons_succ]
                  refine wpAnyH_ready (rs := [8]) (by kernel_rfl) (by simp) (AllReadyH.cons rfl (fun K hK => ?_) AllReadyH.nil)
                  · go_simp
                    refine hK.out _ _ (K3.below hS ((Below.refl _ _).alloc (Nat.le_refl _) _)) (fun hS => ?_)
                    have hST := hST.first
                    clear hK K
                    try simp only [Act.put, List.getElem_toArray, List.getElem_cons_succ, List.getElem_cons_zero, List.setIfInBounds_toArray, List.set_cons_zero, List.set_cons_succ]
                    obtain ⟨Wc4, hWn⟩ : ∃ Wn, Wc3.alloc (.cells Try.zeroCells70 70) = Wn := ⟨_, rfl⟩
                    obtain ⟨B12, hBn⟩ : ∃ b, Wc3.heap.size = b := ⟨_, rfl⟩
                    rw [hWn] at hST hS ⊢
                    rw [hBn] at hST ⊢
                    clear hWn hBn
                    refine wpAnyH_ready (rs := [10]) (by kernel_rfl) (by simp) (AllReadyH.cons rfl (fun K hK => ?_) AllReadyH.nil)
                    rw [if_pos (by rfl)]
                    refine wp_store_mid 70 _ _ rfl B12 0 A rfl rfl (by rw [hsA]; exact (hST.fst _ rfl).2.2) (by rw [hsA]; exact info_row) hoA ?_
                    refine hK.out _ _ (K3.below hKwv (below_setCells (hST.fst _ rfl).1 _ _ _ hST.below)) (fun hS => ?_)
                    clear hK K
                    try simp only [Act.put, List.getElem_toArray, List.getElem_cons_succ, List.getElem_cons_zero]
                    refine wpAnyH_ready (rs := [11]) (by kernel_rfl) (by simp) (AllReadyH.cons rfl (fun K hK => ?_) AllReadyH.nil)
                    rw [if_pos (by rfl)]
                    refine wp_store_mid 70 _ _ rfl B13 0 B rfl rfl (by rw [hsB]; exact World.there_setCells (hST.snd _ rfl).2.2 _ _ _) (by rw [hsB]; exact info_row) hoB ?_
                    refine hK.out _ _ (K3.below hKwv (below_setCells (hST.snd _ rfl).1 _ _ _ (below_setCells (hST.fst _ rfl).1 _ _ _ hST.below))) (fun hS => ?_)
                    clear hK K
                    try simp only [Act.put, List.getElem_toArray, List.getElem_cons_succ, List.getElem_cons_zero]
                    refine wpAnyH_done (by kernel_rfl) ?_ _
                    exact ⟨rfl, B12, B13, rfl, hST.fin hlA hlB⟩
                · go_simp
                  refine hK.out _ _ (K3.below hS ((Below.refl _ _).alloc (Nat.le_refl _) _)) (fun hS => ?_)
                  have hST := hST.first
                  clear hK K
                  try simp only [Act.put, List.getElem_toArray, List.getElem_cons_succ, List.getElem_cons_zero, List.setIfInBounds_toArray, List.set_cons_zero, List.set_cons_succ]
                  obtain ⟨Wc3, hWn⟩ : ∃ Wn, Wc2.alloc (.cells Try.zeroCells70 70) = Wn := ⟨_, rfl⟩
                  obtain ⟨B12, hBn⟩ : ∃ b, Wc2.heap.size = b := ⟨_, rfl⟩
                  rw [hWn] at hST hS ⊢
                  rw [hBn] at hST ⊢
                  clear hWn hBn
                  refine wpAnyH_ready (rs := [7]) (by kernel_rfl) (by simp) (AllReadyH.cons rfl (fun K hK => ?_) AllReadyH.nil)
                  · go_simp
                    go_at_call 39
                    refine (HVb.out _ (hBwv.on hST.below)).mono ?_
                    rintro e Wc4 ⟨rfl, hb⟩
                    have hST := hST.call hb
                    refine hK.out _ _ (K3.below hS hb) (fun hS => ?_)
                    clear hK K hb
                    try simp only [Act.put, List.getElem_toArray, List.getElem_cons_succ, List.getElem_cons_zero, List.setIfInBounds_toArray, List.set_cons_zero, List.set_cons_succ]
                    refine wpAnyH_ready (rs := [10]) (by kernel_rfl) (by simp) (AllReadyH.cons rfl (fun K hK => ?_) AllReadyH.nil)
                    rw [if_pos (by rfl)]
                    refine wp_store_mid 70 _ _ rfl B12 0 A rfl rfl (by rw [hsA]; exact (hST.fst _ rfl).2.2) (by rw [hsA]; exact info_row) hoA ?_
                    refine hK.out _ _ (K3.below hKwv (below_setCells (hST.fst _ rfl).1 _ _ _ hST.below)) (fun hS => ?_)
                    clear hK K
                    try simp only [Act.put, List.getElem_toArray, List.getElem_cons_succ, List.getElem_cons_zero]
                    refine wpAnyH_ready (rs := [11]) (by kernel_rfl) (by simp) (AllReadyH.cons rfl (fun K hK => ?_) AllReadyH.nil)
                    rw [if_pos (by rfl)]
                    refine wp_store_mid 70 _ _ rfl B13 0 B rfl rfl (by rw [hsB]; exact World.there_setCells (hST.snd _ rfl).2.2 _ _ _) (by rw [hsB]; exact info_row) hoB ?_
                    refine hK.out _ _ (K3.below hKwv (below_setCells (hST.snd _ rfl).1 _ _ _ (below_setCells (hST.fst _ rfl).1 _ _ _ hST.below))) (fun hS => ?_)
                    clear hK K
                    try simp only [Act.put, List.getElem_toArray, List.getElem_cons_succ, List.getElem_cons_zero]
                    refine wpAnyH_done (by kernel_rfl) ?_ _
                    exact ⟨rfl, B12, B13, rfl, hST.fin hlA hlB⟩
              · go_simp
                refine hK.out _ _ (K3.below hS ((Below.refl _ _).alloc (Nat.le_refl _) _)) (fun hS => ?_)
                have hST := hST.first
                clear hK K
                try simp only [Act.put, List.getElem_toArray, List.getElem_cons_succ, List.getElem_cons_zero, List.setIfInBounds_toArray, List.set_cons_zero, List.set_cons_succ]
                obtain ⟨Wc2, hWn⟩ : ∃ Wn, Wc1.alloc (.cells Try.zeroCells70 70) = Wn := ⟨_, rfl⟩
                obtain ⟨B12, hBn⟩ : ∃ b, Wc1.heap.size = b := ⟨_, rfl⟩
                rw [hWn] at hST hS ⊢
                rw [hBn] at hST ⊢
                clear hWn hBn
                refine wpAnyH_ready (rs := [3]) (by kernel_rfl) (by simp) (AllReadyH.cons rfl (fun K hK => ?_) AllReadyH.nil)
                · go_simp
                  go_at_call 39
                  refine (HVa.out _ (hBwv.on hST.below)).mono ?_
                  rintro e Wc3 ⟨rfl, hb⟩
                  have hST := hST.call hb
                  refine hK.out _ _ (K3.below hS hb) (fun hS => ?_)
                  clear hK K hb
                  try simp only [Act.put, List.getElem_toArray, List.getElem_cons_succ, List.getElem_cons_zero, List.setIfInBounds_toArray, List.set_cons_zero, List.set_cons_succ]
                  refine wpAnyH_ready (rs := [7]) (by kernel_rfl) (by simp) (AllReadyH.cons rfl (fun K hK => ?_) AllReadyH.nil)
                  · go_simp
                    go_at_call 39
                    refine (HVb.out _ (hBwv.on hST.below)).mono ?_
                    rintro e Wc4 ⟨rfl, hb⟩
                    have hST := hST.call hb
                    refine hK.out _ _ (K3.below hS hb) (fun hS => ?_)
                    clear hK K hb
                    try simp only [Act.put, List.getElem_toArray, List.getElem_cons_succ, List.getElem_cons_zero, List.setIfInBounds_toArray, List.set_cons_zero, List.set_cons_succ]
                    refine wpAnyH_ready (rs := [10]) (by kernel_rfl) (by simp) (AllReadyH.cons rfl (fun K hK => ?_) AllReadyH.nil)
                    rw [if_pos (by rfl)]
                    refine wp_store_mid 70 _ _ rfl B12 0 A rfl rfl (by rw [hsA]; exact (hST.fst _ rfl).2.2) (by rw [hsA]; exact info_row) hoA ?_
                    refine hK.out _ _ (K3.below hKwv (below_setCells (hST.fst _ rfl).1 _ _ _ hST.below)) (fun hS => ?_)
                    clear hK K
                    try simp only [Act.put, List.getElem_toArray, List.getElem_cons_succ, List.getElem_cons_zero]
                    refine wpAnyH_ready (rs := [11]) (by kernel_rfl) (by simp) (AllReadyH.cons rfl (fun K hK => ?_) AllReadyH.nil)
                    rw [if_pos (by rfl)]
                    refine wp_store_mid 70 _ _ rfl B13 0 B rfl rfl (by rw [hsB]; exact World.there_setCells (hST.snd _ rfl).2.2 _ _ _) (by rw [hsB]; exact info_row) hoB ?_
                    refine hK.out _ _ (K3.below hKwv (below_setCells (hST.snd _ rfl).1 _ _ _ (below_setCells (hST.fst _ rfl).1 _ _ _ hST.below))) (fun hS => ?_)
                    clear hK K
                    try simp only [Act.put, List.getElem_toArray, List.getElem_cons_succ, List.getElem_cons_zero]
                    refine wpAnyH_done (by kernel_rfl) ?_ _
                    exact ⟨rfl, B12, B13, rfl, hST.fin hlA hlB⟩
          case rest =>
            rintro a' Wz ⟨B12, B13, rfl, hF⟩
            simp only [List.setIfInBounds_toArray, List.set_cons_zero, List.set_cons_succ]
            go_wp2_with fail
            go_step3
            go_wp2_with fail
            have hBz : Below w2.heap.size w2 Wz := (hB.on hbv).on hF.below
            have hwz := hF.below.size
            have hvs := hbv.size
            have hKz := hKwv.below hF.below
            have hkl : wr.heap.size < Wz.heap.size := World.block_lt_of_cell? _ _ hKz.1
            go_loopw [14, 44] (fun dv i wq => ∃ (d m : Nat) (da : Option Addr) (c : Nat), i = .int .i64 d ∧ d ≤ 1024 ∧ dv = .slice da m c ∧ m ≤ d ∧ OwnSL encP 2 wq Wz.heap.size 26 dv (spansTo l k before after d) ∧ Hid ((spansTo l k before after d).length = m) ∧ Below Wz.heap.size Wz wq) (fun _ i _ => 1024 - (intOf i).toNat)
            case atStart => exact ⟨0, 0, none, 0, rfl, by omega, rfl, by omega, OwnSL.nil _ _ _ _ _, Lib.hid rfl, Below.refl _ _⟩
            case round =>
              obtain ⟨d, m, da, c, rfl, hd, rfl, hmd, hOd, HM, hB2⟩ := hrel
              have hsz := hB2.size
              have hol := hOd.lt
              by_cases hltd : d < 1024
              · have HS := Lib.hid (spansTo_succ l k before after d)
                obtain ⟨days, hdays⟩ : ∃ days, spansTo l k before after d = days := ⟨_, rfl⟩
                rw [hdays] at hOd HM HS
                clear hdays
                have t1 : (d : Int) < 1024 := by omega
                have t0 : (0 : Int) ≤ (d : Int) := by omega
                have ca : Wz.cell? ⟨B12, d, none⟩ = some (.int .i64 (valAt l k before d)) := by have := hF.ra d _ (HGA.out d hltd); rwa [Nat.zero_add] at this
                have cb : Wz.cell? ⟨B13, d, none⟩ = some (.int .i64 (valAt l k after d)) := by have := hF.rb d _ (HGB.out d hltd); rwa [Nat.zero_add] at this
                have ca2 := (hB2.cell (p := ⟨B12, d, none⟩) hF.lb.2).trans ca
                have cb2 := (hB2.cell (p := ⟨B13, d, none⟩) hF.lc.2).trans cb
                have hvd := val_dif l k before after d
                obtain ⟨va, hva⟩ : ∃ va, valAt l k before d = va := ⟨_, rfl⟩
                obtain ⟨vb, hvb⟩ : ∃ vb, valAt l k after d = vb := ⟨_, rfl⟩
                rw [hva] at ca2 hvd
                rw [hvb] at cb2 hvd
                clear ca cb hva hvb
                cases hdf : difB l k d before after
                · rw [hdf] at hvd HS
                  clear hdf
                  simp only [Bool.not_false] at hvd
                  go_wp2_with (go_quiet (fail))
                  go_roundw
                  case rel => exact ⟨d + 1, m, da, c, by go_num, by omega, rfl, by omega, by rw [HS.out]; exact hOd.drewN _, Lib.hid (by rw [HS.out]; exact HM.out), hB2.on (Below.drewN0 _ _)⟩
                  case measure => simp [intOf]; omega
                · rw [hdf] at hvd HS
                  clear hdf
                  simp only [Bool.not_true] at hvd
                  go_wp2_with fail
                  go_quiet (fail)
                  obtain ⟨X, hXe⟩ : ∃ X, wr.drewN nq = X := ⟨_, rfl⟩
                  have hBX : Below wr.heap.size wr X := by rw [← hXe]; exact Below.drewN0 _ _
                  rw [hXe]
                  clear hXe
                  have hOX := hOd.below hBX
                  have hXs := hBX.size
                  by_cases hm0 : 0 < m
                  · have t2 : (0 : Int) < (m : Int) := by omega
                    have t3 : (0 : Int) ≤ (m : Int) - 1 := by omega
                    have t4 : (m : Int) - 1 < (m : Int) := by omega
                    have t5 : ((m : Int) - 1).toNat = m - 1 := by omega
                    have t6 : IntKind.i64.wrap ((m : Int) - 1) = (m : Int) - 1 := by rw [IntKind.wrap_i64]; omega
                    have hSd := hOX.sl2 encP_len HM.out
                    obtain ⟨g, go, rfl, hgl⟩ := hSd.at' hm0
                    obtain rfl : go = 0 := by
                      rcases hOX.2 with ⟨e9, _⟩ | ⟨g9, cap9, cur9, e9, _⟩
                      · cases e9
                      · injection e9 with e9 _ _; injection e9 with e9; injection e9
                    obtain ⟨s, hs⟩ : ∃ s, days[m - 1]? = some s := ⟨_, List.getElem?_eq_getElem (by rw [HM.out]; omega)⟩
                    obtain ⟨p0, p1⟩ := hSd.pair hs
                    rw [Nat.zero_add] at p0 p1
                    have HSS := Lib.hid hs
                    clear hs
                    by_cases hsd : s.2 = d
                    · rw [hsd] at p1
                      have HSD := Lib.hid hsd
                      have HJ := Lib.hid (joinD_last (d := d) (by rw [HM.out]; exact HSS.out) hsd)
                      have gf := hOX.frozen ((m - 1) * 2 + 1)
                      clear hsd
                      go_wp2_with fail
                      go_roundw
                      case rel =>
                        refine ⟨d + 1, m, some ⟨g, 0, none⟩, c, by go_num, by omega, rfl, by omega, ?_, Lib.hid ?_, (hB2.on hBX).setCell (p := ⟨g, (m - 1) * 2 + 1, none⟩) (by have := hol g rfl; simp; omega) _⟩
                        · rw [HS.out, if_pos trivial, HJ.out]
                          exact hOX.setLast HM.out hm0 HSS.out _
                        · rw [HS.out, if_pos trivial, HJ.out, List.length_append, List.length_dropLast, HM.out]; simp; omega
                      case measure => simp [intOf]; omega
                    · have t7 : (s.2 == (d : Int)) = false := by rw [beq_eq_false_iff_ne]; exact hsd
                      have HJ := Lib.hid (joinD_new (days := days) (d := d) (fun s' hs' => by rw [HM.out, HSS.out] at hs'; injection hs' with hs'; rw [← hs']; exact hsd))
                      have hO' := hOX
                      unfold OwnSL at hO'
                      rw [HM.out] at hO'
                      clear hsd
                      go_wp2_with ((at_builtin; refine wpList_append_own2 _ rfl _ _ 55 rfl Wz.heap.size 26 i2s _ 2 16 Try.underlying55 his hzs0 hzs1 hzs2 rfl (by decide) _ _ _ (hO'.alloc _) rfl ⟨_, 0, none⟩ 1 1 (encP ((d : Int), (d : Int) + 1)) rfl rfl (new2 _ _ _) (encP_one _) (by unfold maxLen; omega) (by omega) (by simp; omega) ?_; intro v' w1 hown' hgrow hfr))
                      obtain ⟨a9, c9, rfl, _, _⟩ := own_slice hown'
                      have h99 : ∃ g9, a9 = some ⟨g9, 0, none⟩ := by
                        rcases hown'.2 with ⟨e, h0'⟩ | ⟨g9, cap9, cur9, e, _⟩
                        · omega
                        · injection e with e1 e2 e3; exact ⟨g9, e1⟩
                      obtain ⟨g9, rfl⟩ := h99
                      go_roundw
                      case rel =>
                        refine ⟨d + 1, m + 1, some ⟨g9, 0, none⟩, c9, by go_num, by omega, rfl, by omega, ?_, Lib.hid ?_, ((hB2.on hBX).alloc (by omega) _).grown hgrow (by simp; omega) (fun q e => by have := (hol q e).1; omega)⟩
                        · rw [HS.out, if_pos trivial, HJ.out]
                          refine OwnSL.snoc ?_
                          rw [HM.out]; exact hown'
                        · rw [HS.out, if_pos trivial, HJ.out, List.length_append, HM.out]; rfl
                      case measure => simp [intOf]; omega
                  · obtain rfl : m = 0 := by omega
                    have hdn : days = [] := List.eq_nil_of_length_eq_zero HM.out
                    subst hdn
                    have HJ := Lib.hid (joinD_nil d)
                    have hO' : X.ownsRow Wz.heap.size 26 2 (.slice da 0 c) 0 [] := hOX
                    go_wp2_with ((at_builtin; refine wpList_append_own2 _ rfl _ _ 55 rfl Wz.heap.size 26 i2s _ 2 16 Try.underlying55 his hzs0 hzs1 hzs2 rfl (by decide) _ _ _ (hO'.alloc _) rfl ⟨_, 0, none⟩ 1 1 (encP ((d : Int), (d : Int) + 1)) rfl rfl (new2 _ _ _) (encP_one _) (by unfold maxLen; omega) (by omega) (by simp; omega) ?_; intro v' w1 hown' hgrow hfr))
                    obtain ⟨a9, c9, rfl, _, _⟩ := own_slice hown'
                    have h99 : ∃ g9, a9 = some ⟨g9, 0, none⟩ := by
                      rcases hown'.2 with ⟨e, h0'⟩ | ⟨g9, cap9, cur9, e, _⟩
                      · simp at h0'
                      · injection e with e1 e2 e3; exact ⟨g9, e1⟩
                    obtain ⟨g9, rfl⟩ := h99
                    go_roundw
                    case rel =>
                      refine ⟨d + 1, 1, some ⟨g9, 0, none⟩, c9, by go_num, by omega, rfl, by omega, ?_, Lib.hid ?_, ((hB2.on hBX).alloc (by omega) _).grown hgrow (by simp; omega) (fun q e => by have := (hol q e).1; omega)⟩
                      · rw [HS.out, if_pos trivial, HJ.out]
                        exact OwnSL.snoc (l := []) hown'
                      · rw [HS.out, if_pos trivial, HJ.out]; rfl
                    case measure => simp [intOf]; omega
              · obtain rfl : d = 1024 := by omega
                have HSP : Hid (spansTo l k before after 1024 = spansL l k before after) := Lib.hid rfl
                have hSd := hOd.sl2 encP_len HM.out
                have hBall := ((Below.refl _ _).on hbv).on (hF.below.on hB2)
                have hO2 := hO.below hBall
                have hD2 := hD.below hBall
                have hvl := hO.lt
                obtain ⟨f0, f1, f2⟩ := hKz.below hB2
                have hBfin := hBz.on hB2
                by_cases hm0 : 0 < m
                · have t2 : (0 : Int) < (m : Int) := by omega
                  have hO' := hO2
                  unfold OwnSL at hO'
                  have HDF : Hid (difOf l before after k = [(k, spansTo l k before after 1024)]) := Lib.hid (by
                    unfold difOf; rw [if_neg]; rfl
                    intro e; rw [← HSP.out] at e; have := HM.out; rw [e] at this; simp at this; omega)
                  have hsb := hB.size
                  go_wp2_with ((at_builtin; refine wpList_append_own2 _ rfl _ _ 46 rfl w2.heap.size 57 i4d _ 4 48 Try.underlying46 hid hzd0 hzd1 hzd2 rfl (by decide) _ _ _ (hO'.alloc _) rfl ⟨_, 0, none⟩ 1 1 (encD (k, .slice da m c)) rfl rfl (new4 _ _ _ _ _ _) (encD_one _ _ _ _) (by unfold maxLen; omega) (by omega) (by simp; omega) ?_; intro v' w1 hown' hgrow hfr))
                  simp only [Exit.noGoto_normal, Exit.inBlock, Exit.then]
                  apply_assumption
                  go_wp2_with fail
                  go_roundw
                  case rel =>
                    have hal2 : Below wr.heap.size wr (wr.alloc (.cells #[.int .i64 k.kd, .int .i64 k.sb, .int .i64 k.ob, .slice da m c] 57)) := (Below.refl _ _).alloc (Nat.le_refl _) _
                    refine ⟨q + 1, us ++ [(k, .slice da m c)], by go_num, by omega, by simp; omega, OwnSL.snoc hown', ?_, (hBfin.on hal2).grown hgrow (by have := hBfin.size; simp; omega) (fun b e => (hvl b e).1)⟩
                    rw [HSTEP.out, HDF.out]
                    exact (hD2.below hal2).push hgrow hfr (hSd.below hal2) (fun _ e => by
                      rcases hv : (Value.slice da m c).ownBlock with _ | b
                      · cases da <;> simp [Value.ownBlock] at hv
                        obtain ⟨b', o', e', _⟩ := hSd.at' hm0; cases e'
                      · have h1 := (hol b hv).1; rw [hv] at e; have h2 := (hvl b e.symm).2; omega)
                  case measure => simp [intOf]; omega
                · obtain rfl : m = 0 := by omega
                  have HDF : Hid (difOf l before after k = []) := Lib.hid (by
                    unfold difOf; rw [if_pos]
                    rw [← HSP.out]; exact List.eq_nil_of_length_eq_zero HM.out)
                  go_wp2_with fail
                  simp only [Exit.noGoto_normal, Exit.inBlock, Exit.then]
                  apply_assumption
                  go_wp2_with fail
                  go_roundw
                  case rel => exact ⟨q + 1, us, by go_num, by omega, by omega, hO2, by rw [HSTEP.out, HDF.out, List.append_nil]; exact hD2, hBfin⟩
                  case measure => simp [intOf]; omega
        · obtain rfl : q = nk := by omega
          go_wp2_with fail
          go_ret
          refine ⟨_, us, rfl, hO.mono hB2w.size, ?_, hB2w.on hB⟩
          rw [HCH.out]
          rw [List.take_of_length_le (by rw [HNK.out]; exact Nat.le_refl _)] at hD
          exact hD.del
end Go.Proofs.Ytfhekhjojdhmhaa
