/- slices.SortFunc at lists of ints: the library's contract laid at this seat's numbers; slices.Compare; sorting an own row of lists. -/
import Derived.Shelf.SlSortCmp.NoneTotal
import Derived.Test.YtehoidohallfcaaGreatDoorNxX
import Derived.RecoverIn
namespace Go.Proofs.YtehoidohallfcaaGreatDoor
open Go.RowKit Go.Shelf Go.Sort Go.Lib
def so_ren : Go.Shelf.Ren := ⟨fun | 6 => 79 | 14 => 119 | 15 => 120 | 20 => 165 | 21 => 166 | 22 => 167 | 23 => 168 | 24 => 169 | 25 => 170 | 26 => 171 | 27 => 172 | 28 => 173 | 29 => 174 | 46 => 261 | 47 => 262 | 48 => 263 | 49 => 264 | 50 => 265 | 57 => 344 | n => n, fun | 0 => 0 | 3 => 3 | 4 => 4 | 5 => 5 | 9 => 9 | 22 => 106 | 24 => 22 | 25 => 169 | 39 => 207 | 45 => 266 | 46 => 267 | 50 => 155 | 53 => 273 | 55 => 275 | 66 => 350 | 70 => 354 | 76 => 444 | 77 => 445 | n => n, fun | n => n⟩
set_option maxRecDepth 100000 in
theorem so_n6 : SlLaysF.n6 Tryz.prog so_ren := {
 mixed := by kernel_rfl
 f6 := ⟨Tryz.f79.name, by decide, Tryz.func79.trans (congrArg some (by kernel_rfl))⟩
 f14 := ⟨Tryz.f119.name, by decide, Tryz.func119.trans (congrArg some (by kernel_rfl))⟩
 f15 := Tryz.func120.trans (congrArg some (by kernel_rfl))
 f20 := ⟨Tryz.f165.name, by decide, Tryz.func165.trans (congrArg some (by kernel_rfl))⟩
 f21 := ⟨Tryz.f166.name, by decide, Tryz.func166.trans (congrArg some (by kernel_rfl))⟩
 f22 := ⟨Tryz.f167.name, by decide, Tryz.func167.trans (congrArg some (by kernel_rfl))⟩
 f23 := ⟨Tryz.f168.name, by decide, Tryz.func168.trans (congrArg some (by kernel_rfl))⟩
 f24 := ⟨Tryz.f169.name, by decide, Tryz.func169.trans (congrArg some (by kernel_rfl))⟩
 f25 := ⟨Tryz.f170.name, by decide, Tryz.func170.trans (congrArg some (by kernel_rfl))⟩
 f26 := ⟨Tryz.f171.name, by decide, Tryz.func171.trans (congrArg some (by kernel_rfl))⟩
 f27 := ⟨Tryz.f172.name, by decide, Tryz.func172.trans (congrArg some (by kernel_rfl))⟩
 f28 := Tryz.func173.trans (congrArg some (by kernel_rfl))
 f29 := Tryz.func174.trans (congrArg some (by kernel_rfl))
 f46 := ⟨Tryz.f261.name, by decide, Tryz.func261.trans (congrArg some (by kernel_rfl))⟩
 f47 := Tryz.func262.trans (congrArg some (by kernel_rfl))
 f48 := Tryz.func263.trans (congrArg some (by kernel_rfl))
 f49 := ⟨Tryz.f264.name, by decide, Tryz.func264.trans (congrArg some (by kernel_rfl))⟩
 f50 := ⟨Tryz.f265.name, by decide, Tryz.func265.trans (congrArg some (by kernel_rfl))⟩
 f57 := ⟨Tryz.f344.name, by decide, Tryz.func344.trans (congrArg some (by kernel_rfl))⟩
 t0 := Tryz.underlying0
 a0 := Tryz.isAgg0
 z0 := Tryz.sizeOf0
 v0 := Tryz.zeroValue0
 t3 := Tryz.underlying3
 a3 := Tryz.isAgg3
 z3 := Tryz.sizeOf3
 v3 := Tryz.zeroValue3
 t4 := Tryz.underlying4
 a4 := Tryz.isAgg4
 z4 := Tryz.sizeOf4
 v4 := Tryz.zeroValue4
 t5 := Tryz.underlying5
 a5 := Tryz.isAgg5
 z5 := Tryz.sizeOf5
 v5 := Tryz.zeroValue5
 t9 := Tryz.underlying9
 a9 := Tryz.isAgg9
 z9 := Tryz.sizeOf9
 v9 := Tryz.zeroValue9
 t22 := Tryz.underlying106
 a22 := Tryz.isAgg106
 z22 := Tryz.sizeOf106
 v22 := Tryz.zeroValue106
 a24 := Tryz.isAgg22
 z24 := Tryz.sizeOf22
 t25 := Tryz.underlying169
 a25 := Tryz.isAgg169
 z25 := Tryz.sizeOf169
 v25 := Tryz.zeroValue169
 t39 := Tryz.underlying207
 a39 := Tryz.isAgg207
 z39 := Tryz.sizeOf207
 v39 := Tryz.zeroValue207
 t45 := Tryz.underlying266
 a45 := Tryz.isAgg266
 z45 := Tryz.sizeOf266
 v45 := Tryz.zeroValue266
 t46 := Tryz.underlying267
 a46 := Tryz.isAgg267
 z46 := Tryz.sizeOf267
 v46 := Tryz.zeroValue267
 t50 := Tryz.underlying155
 a50 := Tryz.isAgg155
 z50 := Tryz.sizeOf155
 v50 := Tryz.zeroValue155
 t53 := Tryz.underlying273
 a53 := Tryz.isAgg273
 z53 := Tryz.sizeOf273
 v53 := Tryz.zeroValue273
 t55 := Tryz.underlying275
 a55 := Tryz.isAgg275
 z55 := Tryz.sizeOf275
 v55 := Tryz.zeroValue275
 t66 := Tryz.underlying350
 a66 := Tryz.isAgg350
 z66 := Tryz.sizeOf350
 v66 := Tryz.zeroValue350
 t70 := Tryz.underlying354
 a70 := Tryz.isAgg354
 z70 := Tryz.sizeOf354
 v70 := Tryz.zeroValue354
 t76 := Tryz.underlying444
 a76 := Tryz.isAgg444
 z76 := Tryz.sizeOf444
 v76 := Tryz.zeroValue444
 t77 := Tryz.underlying445
 a77 := Tryz.isAgg445
 z77 := Tryz.sizeOf445
 v77 := Tryz.zeroValue445 }
theorem ordL_step {a b : List Int} {k : Nat} {x y : Int} (hx : a[k]? = some x) (hy : b[k]? = some y) : ordL (a.drop k) (b.drop k) = if x < y then -1 else if y < x then 1 else ordL (a.drop (k + 1)) (b.drop (k + 1)) := by
 obtain ⟨h1, e1⟩ := List.getElem?_eq_some_iff.1 hx
 obtain ⟨h2, e2⟩ := List.getElem?_eq_some_iff.1 hy
 rw [List.drop_eq_getElem_cons h1, List.drop_eq_getElem_cons h2, e1, e2]; rfl
theorem ordL_endA {a b : List Int} {k : Nat} (hk : a.length = k) : ordL (a.drop k) (b.drop k) = if k < b.length then -1 else 0 := by
 rw [List.drop_of_length_le (by omega)]
 by_cases h : k < b.length
 · rw [if_pos h, List.drop_eq_getElem_cons h]; rfl
 · rw [if_neg h, List.drop_of_length_le (by omega)]; rfl
theorem ordL_endB {a b : List Int} {k : Nat} (hk : b.length = k) (h : k < a.length) : ordL (a.drop k) (b.drop k) = 1 := by
 rw [List.drop_of_length_le (l := b) (by omega), List.drop_eq_getElem_cons h]; rfl
def cmpI (a b : Int) : Int := if a < b then -1 else if b < a then 1 else 0
theorem compareI_any (x y : Int) (W : World) : Calls Tryz.prog 121 #[.int .i64 x, .int .i64 y] W fun e w' => e = .returned (.int .i64 (cmpI x y)) ∧ w' = W := by
 unfold cmpI
 by_cases h1 : x < y
 · rw [if_pos h1]
   go_enter Tryz.func121, Tryz.ntmps121
   go_wp2
   go_ret
   exact ⟨rfl, rfl⟩
 · rw [if_neg h1]
   by_cases h2 : y < x
   · rw [if_pos h2]
     go_enter Tryz.func121, Tryz.ntmps121
     go_wp2
     go_ret
     exact ⟨rfl, rfl⟩
   · rw [if_neg h2]
     go_enter Tryz.func121, Tryz.ntmps121
     go_wp2
     go_ret
     exact ⟨rfl, rfl⟩
set_option maxHeartbeats 4000000 in
theorem compareL_any (a0 a1 : Option Addr) (m c n d : Nat) (a b : List Int) (W : World) (h0 : Ints W a0 m c a) (h1 : Ints W a1 n d b) :
 Calls Tryz.prog 81 #[.slice a0 m c, .slice a1 n d] W fun e w' => e = .returned (.int .i64 (ordL a b)) ∧ w' = W := by
 have HL0 := Lib.hid h0.len
 have HL1 := Lib.hid h1.len
 have hm0 := h0.mx
 have hc0 := h0.cap
 have hm1 := h1.mx
 have hc1 := h1.cap
 unfold maxLen at hm0 hm1
 go_enter Tryz.func81, Tryz.ntmps81
 go_wp2_with fail
 go_loop [11] (fun i => ∃ k : Nat, i = .int .i64 k ∧ k ≤ m ∧ k ≤ n ∧ Hid (ordL a b = ordL (a.drop k) (b.drop k))) (fun i => m - (intOf i).toNat)
 case atStart => exact ⟨0, rfl, by omega, by omega, Lib.hid rfl⟩
 case round =>
  obtain ⟨k, rfl, hk, hkn, HO⟩ := hrel
  by_cases hlt : k < m
  · have s0 : (0 : Int) ≤ (k : Int) := by omega
    have s1 : (k : Int) < (m : Int) := by omega
    obtain ⟨b0, o0, rfl, hb0⟩ := h0.at' (by omega)
    obtain ⟨x, hx⟩ := h0.has hlt
    have e0 := h0.get hx
    by_cases hln : k < n
    · have s2 : (k : Int) < (n : Int) := by omega
      obtain ⟨b1, o1, rfl, hb1⟩ := h1.at' (by omega)
      obtain ⟨y, hy⟩ := h1.has hln
      have e1 := h1.get hy
      have hst := ordL_step hx hy
      have hcc := compareI_any x y W
      unfold cmpI at hcc
      by_cases c1 : x < y
      · rw [if_pos c1] at hst hcc
        have HR : Hid (ordL a b = -1) := Lib.hid (by rw [HO.out, hst])
        clear hst hx hy c1
        go_wp2_with fail
        refine hcc.mono ?_
        rintro e w' ⟨rfl, rfl⟩
        clear hcc
        go_wp2_with fail
        go_ret
        exact ⟨ret_int HR.out.symm, rfl⟩
      · rw [if_neg c1] at hst hcc
        by_cases c2 : y < x
        · rw [if_pos c2] at hst hcc
          have HR : Hid (ordL a b = 1) := Lib.hid (by rw [HO.out, hst])
          clear hst hx hy c1 c2
          go_wp2_with fail
          refine hcc.mono ?_
          rintro e w' ⟨rfl, rfl⟩
          clear hcc
          go_wp2_with fail
          go_ret
          exact ⟨ret_int HR.out.symm, rfl⟩
        · rw [if_neg c2] at hst hcc
          have HR : Hid (ordL a b = ordL (a.drop (k + 1)) (b.drop (k + 1))) := Lib.hid (by rw [HO.out, hst])
          clear hst hx hy c1 c2
          go_wp2_with fail
          refine hcc.mono ?_
          rintro e w' ⟨rfl, rfl⟩
          clear hcc
          go_wp2_with fail
          go_round
          case rel => exact ⟨k + 1, by go_num, by omega, by omega, HR⟩
          case measure => simp [intOf]; omega
    · have HR : Hid (ordL a b = 1) := Lib.hid (by rw [HO.out, ordL_endB (by rw [HL1.out]; omega) (by rw [HL0.out]; omega)])
      have s3 : (n : Int) ≤ (k : Int) := by omega
      clear hx
      go_wp2_with fail
      go_ret
      exact ⟨ret_int HR.out.symm, rfl⟩
  · obtain rfl : m = k := by omega
    have hen := ordL_endA (b := b) HL0.out
    rw [HL1.out] at hen
    by_cases hln : m < n
    · rw [if_pos hln] at hen
      have HR : Hid (ordL a b = -1) := Lib.hid (by rw [HO.out, hen])
      have s3 : (m : Int) < (n : Int) := by omega
      clear hen
      go_wp2_with fail
      go_ret
      exact ⟨ret_int HR.out.symm, rfl⟩
    · rw [if_neg hln] at hen
      have HR : Hid (ordL a b = 0) := Lib.hid (by rw [HO.out, hen])
      have s3 : ¬ (m : Int) < (n : Int) := by omega
      clear hen
      go_wp2_with fail
      go_ret
      exact ⟨ret_int HR.out.symm, rfl⟩
section
variable {n : Nat} (f : Fin n → List Int)
def cfF (i j : Fin n) : Int := ordL (f i) (f j)
theorem ltOf_cfF (i j : Fin n) : ltOf (cfF f) i j = ltP (f i) (f j) := rfl
theorem swo_cfF : Sort.SWO (ltOf (cfF f)) := by
 refine ⟨fun x => ltP_irrefl _, fun x y z h1 h2 => ltP_trans h1 h2, fun x y z h1 h2 => ?_⟩
 rw [ltOf_cfF] at *
 cases e : ltP (f x) (f z)
 · rfl
 · exfalso
   -- f y is not above f x and not below: by the order's totality
   cases e1 : ltP (f y) (f x)
   · have := ltP_tri h1 e1
     rw [this] at e; rw [e] at h2; cases h2
   · have := ltP_trans e1 e
     rw [this] at h2; cases h2
end
theorem merge_inc {n : Nat} (f : Fin n → List Int) (hf : ∀ i j, f i = f j → i = j) : Inc (((List.finRange n).mergeSort fun x y => !ltOf (cfF f) y x).map f) ∧ ∀ i, i ∈ ((List.finRange n).mergeSort fun x y => !ltOf (cfF f) y x) := by
 have hp := List.mergeSort_perm (List.finRange n) (fun x y => !ltOf (cfF f) y x)
 have hO := swo_cfF f
 have hs : ((List.finRange n).mergeSort fun x y => !ltOf (cfF f) y x).Pairwise (fun a b => (!ltOf (cfF f) b a) = true) := List.pairwise_mergeSort (fun a b c h1 h2 => by
  simp only [Bool.not_eq_true'] at *
  exact hO.ntrans c b a h2 h1) (fun a b => by
  cases h : ltOf (cfF f) b a
  · rfl
  · rw [ltOf_cfF] at h
    rw [ltOf_cfF, ltP_asymm h]; rfl) _
 have hnd : ((List.finRange n).mergeSort fun x y => !ltOf (cfF f) y x).Nodup := hp.nodup_iff.2 (List.nodup_finRange n)
 refine ⟨?_, fun i => hp.mem_iff.2 (List.mem_finRange i)⟩
 unfold Inc
 rw [List.pairwise_map]
 refine (List.Pairwise.and hs hnd).imp ?_
 rintro a b ⟨h1, h2⟩
 rw [ltOf_cfF] at h1
 cases h : ltP (f a) (f b)
 · exact absurd (hf _ _ (ltP_tri h (by simpa using h1))) h2
 · rfl
theorem grown_sort {n : Nat} [Inhabited (Fin n)] {enc : Fin n → Value} {W : World} {g off k : Nat} {d : Array (Fin n)} {os : Array Obj} : W.grownBy (sortWorld enc W g off k d os) (some g) := by
 refine ⟨rfl, rfl, rfl, by unfold sortWorld; simp [Go.Sort.grow, putRow, mapBlock, Go.Sort.ahead], fun q hq hne => ?_⟩
 have hkg : g ≠ q := fun e => hne (by rw [e])
 unfold sortWorld
 rw [heap_grow_old _ _ (by simpa [putRow, mapBlock, Go.Sort.ahead] using hq)]
 simp [putRow, mapBlock, Go.Sort.ahead, Array.getElem?_modify, hkg]
theorem ordC_any (a0 a1 : Option Addr) (m c n d : Nat) (a b : List Int) (W : World) (h0 : Ints W a0 m c a) (h1 : Ints W a1 n d b) :
 Calls Tryz.prog 80 #[.slice a0 m c, .slice a1 n d] W fun e w' => e = .returned (.int .i64 (ordL a b)) ∧ w' = W := by
 have HC := Lib.hid (compareL_any a0 a1 m c n d a b W h0 h1)
 go_enter Tryz.func80, Tryz.ntmps80
 go_wp2_with fail
 refine HC.out.mono ?_
 rintro e w' ⟨rfl, rfl⟩
 go_wp2_with fail
 go_ret
 exact ⟨rfl, rfl⟩
theorem ElemsB.get {w : World} {base : Nat} {row : Option Nat} {us : List Value} {ls : List (List Int)} (h : ElemsB w base row us ls) : us.length = ls.length ∧ ∀ (i : Nat) (u : Value) (l : List Int), us[i]? = some u → ls[i]? = some l → ElemB w base row u l := by
 induction h with
 | nil => exact ⟨rfl, fun i u l hu => by simp at hu⟩
 | cons h1 _ ih =>
  refine ⟨by simp [ih.1], fun i u l hu hl => ?_⟩
  cases i with
  | zero => simp at hu hl; subst hu hl; exact h1
  | succ i => exact ih.2 i u l (by simpa using hu) (by simpa using hl)
structure RowsN (w : World) (base : Nat) (a : Option Addr) (n c : Nat) (ll : List (List Int)) : Prop where
 rows : Rows w a n c ll
 nb : 0 < n → ∀ b o, a = some ⟨b, o, none⟩ → base ≤ b
 rn : ∀ b o, a = some ⟨b, o, none⟩ → ∀ i, i < n → ∀ ai ni ci, w.cell? ⟨b, o + i, none⟩ = some (.slice ai ni ci) → 0 < ni → ∀ q, (Value.slice ai ni ci).ownBlock = some q → base ≤ q
theorem RowsN.nil (w : World) (base : Nat) : RowsN w base none 0 0 [] := ⟨Rows.nil w, fun h => absurd h (by omega), fun _ _ e => by cases e⟩
theorem sortF_any {W : World} {base : Nat} {v : Value} {L : List (List Int)} (h : RowsB W base 22 v L) (hnd : L.Nodup) (hl : L.length ≤ 1000000) (hbase : base ≤ W.heap.size) :
 Calls Tryz.prog 79 #[v, .func (.func 80) #[] #[]] W fun e w' => e = .returned (.tuple #[]) ∧ (∃ a c, v = .slice a L.length c ∧ RowsN w' base a L.length c (sortP L)) ∧ Below base W w' ∧ W.grownBy w' v.ownBlock := by
 obtain ⟨us, hown, hold⟩ := h
 by_cases hL0 : L = []
 · subst hL0
   obtain ⟨a, c, rfl, _, _⟩ := own_slice hown
   refine (AnyF.slices_SortFunc_none (ρ := so_ren) ({ so_n6 with } : SlLaysF0.n6 Tryz.prog so_ren) a c (.func (.func 80) #[] #[]) W).mono ?_
   rintro e w' ⟨rfl, rfl⟩
   obtain ⟨a', c', e, hR⟩ := RowsB.rows ⟨us, hown, hold⟩ |>.rows
   exact ⟨rfl, ⟨a', c', e, hR, (fun h => absurd h (by simp)), (fun _ _ _ i hi => absurd hi (by simp))⟩, (Below.refl _ _).mono hbase, ⟨rfl, rfl, rfl, Nat.le_refl _, fun _ _ _ => rfl⟩⟩
 rcases hown.2 with ⟨rfl, h0⟩ | ⟨g, cap, cur, rfl, hg, hb, hn, hmx, hs, ht⟩
 · exact absurd (List.eq_nil_of_length_eq_zero h0) hL0
 · have hlt : g < W.heap.size := (Array.getElem?_eq_some_iff.1 hb).1
   have hul : us.length = L.length := hold.get.1
   obtain ⟨n, hnL⟩ : ∃ n, L.length = n := ⟨_, rfl⟩
   rw [hnL] at hown hn hul hl ⊢
   by_cases hn0 : n = 0
   · exact absurd (List.eq_nil_of_length_eq_zero (hnL.trans hn0)) hL0
   · haveI : Inhabited (Fin n) := ⟨⟨0, by omega⟩⟩
     let f : Fin n → List Int := fun i => L[i.val]'(by rw [hnL]; exact i.isLt)
     let enc : Fin n → Value := fun i => us[i.val]'(by rw [hul]; exact i.isLt)
     have hf : ∀ i j, f i = f j → i = j := fun i j e => by
      apply Fin.ext
      exact nodup_get hnd (List.getElem?_eq_getElem (by rw [hnL]; exact i.isLt)) ((List.getElem?_eq_getElem (by rw [hnL]; exact j.isLt)).trans (congrArg some e.symm))
     have hel2 : ∀ i : Fin n, ∃ a m c, enc i = .slice a m c ∧ Ints W a m c (f i) ∧ (0 < m → (enc i).ownBlock ≠ some g ∧ ∀ b, (enc i).ownBlock = some b → base ≤ b) := fun i => by
      obtain ⟨a, m, c, e, hI, hq⟩ := hold.get.2 i.val (enc i) (f i) (List.getElem?_eq_getElem _) (List.getElem?_eq_getElem _)
      exact ⟨a, m, c, e, hI, hq⟩
     have hel : ∀ i : Fin n, ∃ a m c, enc i = .slice a m c ∧ Ints W a m c (f i) ∧ (0 < m → (enc i).ownBlock ≠ some g) := fun i => by
      obtain ⟨a, m, c, e, hI, hq⟩ := hel2 i
      exact ⟨a, m, c, e, hI, fun h0 => (hq h0).1⟩
     have hcmp : CmpLays1 Tryz.prog 80 #[] enc (cfF f) g 0 (List.finRange n).toArray.size W := fun m os dk _ x y => by
      obtain ⟨a1, m1, c1, e1, hI1, hq1⟩ := hel x
      obtain ⟨a2, m2, c2, e2, hI2, hq2⟩ := hel y
      rw [e1] at hq1
      rw [e2] at hq2
      rw [e1, e2]
      refine (ordC_any a1 a2 m1 c1 m2 c2 (f x) (f y) _ (hI1.grown grown_sort hq1) (hI2.grown grown_sort hq2)).mono ?_
      rintro e w' ⟨rfl, rfl⟩
      exact ⟨rfl, 0, #[], rfl⟩
     have hH : Holds enc W g 0 (List.finRange n).toArray := fun j hj => by
      have hj' : j < n := by simpa using hj
      refine ⟨?_, hown.frozenAt (0 + j)⟩
      rw [Nat.zero_add, hown.cellAt j (by omega)]
      simp [enc, hj', List.getElem?_eq_getElem (show j < us.length by omega)]
     have h1c : OneCell enc := fun i => by
      obtain ⟨a, m, c, e, _⟩ := hel i
      rw [e]; rfl
     obtain ⟨hinc, hall⟩ := merge_inc f hf
     have hcall := Any.slices_SortFunc_total so_n6 enc h1c (cfF f) (swo_cfF f) 80 #[] g 0 cap (List.finRange n).toArray W (enters_of Tryz.func80 (by kernel_rfl) rfl) hcmp hH hlt (by simp; omega) (fun x y h1 h2 => hf x y (ltP_tri h1 h2))
     have hsz : (List.finRange n).toArray.size = n := by simp
     rw [hsz] at hcall
     refine hcall.mono ?_
     rintro e w' ⟨rfl, k, os, rfl⟩
     rw [List.toList_toArray]
     obtain ⟨S, hS⟩ : ∃ S, (List.finRange n).mergeSort (fun x y => !ltOf (cfF f) y x) = S := ⟨_, rfl⟩
     rw [hS] at hinc hall ⊢
     have hSl : S.length = n := by rw [← hS, List.length_mergeSort, List.length_finRange]
     have hfin : S.map f = sortP L := sortP_uniq hnd hinc fun x => by
      rw [List.mem_map]
      constructor
      · rintro ⟨i, _, rfl⟩; exact List.getElem_mem _
      · intro hx
        obtain ⟨i, hi, e⟩ := List.getElem_of_mem hx
        exact ⟨⟨i, by omega⟩, hall _, e⟩
     have hH2 := holds_sortWorld enc W g 0 k (List.finRange n).toArray S.toArray os hlt hH (by simp [hSl])
     refine ⟨rfl, ⟨some ⟨g, 0, none⟩, cap, rfl, ?_⟩, ?_, ?_⟩
     · have hcell : ∀ i (hi : i < n), (sortWorld enc W g 0 k (S.toArray) os).cell? ⟨g, 0 + i, none⟩ = some (enc (S[i]'(by omega))) := fun i hi => by
        have hc := (hH2 i (by simpa [hSl] using hi)).1
        rw [hc]
        simp [hSl, hi]
       refine ⟨⟨by rw [← hfin, List.length_map, hSl], by omega, hmx, fun _ => ⟨g, 0, rfl, Nat.lt_of_lt_of_le hlt grown_sort.size⟩, fun b o e i hi => ?_⟩, fun _ b o e => ?_, fun b o e i hi ai ni ci hc hn q hq => ?_⟩
       · obtain ⟨rfl, rfl⟩ : g = b ∧ 0 = o := by simpa using e
         have hc := hcell i hi
         obtain ⟨a, m, c, e1, hI, hq⟩ := hel (S[i]'(by omega))
         refine ⟨a, m, c, by rw [hc, e1], ?_⟩
         rw [← hfin, List.getElem?_map, List.getElem?_eq_getElem (by omega)]
         rw [e1] at hq
         exact hI.grown grown_sort hq
       · obtain ⟨rfl, rfl⟩ : g = b ∧ 0 = o := by simpa using e
         exact hg
       · obtain ⟨rfl, rfl⟩ : g = b ∧ 0 = o := by simpa using e
         rw [hcell i hi] at hc
         injection hc with hc
         obtain ⟨a, m, c, e1, hI, hq2⟩ := hel2 (S[i]'(by omega))
         rw [e1] at hc hq2
         injection hc with c1 c2 c3
         subst c1 c2 c3
         exact (hq2 hn).2 q hq
     · exact ((Below.refl W.heap.size W).mono hbase).grown grown_sort hbase (fun q e => by injection e with e; omega)
     · exact grown_sort
open Go.RowKit
section
variable {s : Sh} {l : List Rs} {p : Nat} {al : List (List Int)}
def More (s : Sh) (l : List Rs) (p : Nat) (al : List (List Int)) (pls : List (List Int)) (pl : List Int) (ss ks : List (List Int)) : Prop := ∀ x, x ∈ ks ↔ (∃ q ∈ pls, ∃ t ∈ al, x = addT s l p q t) ∨ ∃ t ∈ ss, x = addT s l p pl t
variable {pls : List (List Int)} {pl : List Int} {ss ks : List (List Int)}
theorem more_start (pl : List Int) : More s l p al [] pl [] [] := fun x => by simp
theorem More.other (h : More s l p al pls pl [] ks) (pl' : List Int) : More s l p al pls pl' [] ks := fun x => by rw [h x]; simp
theorem More.put (h : More s l p al pls pl ss ks) (t : List Int) : More s l p al pls pl (ss ++ [t]) (if addT s l p pl t ∈ ks then ks else ks ++ [addT s l p pl t]) := fun x => by
 have key : x ∈ (if addT s l p pl t ∈ ks then ks else ks ++ [addT s l p pl t]) ↔ x ∈ ks ∨ x = addT s l p pl t := by
  split
  · rename_i hm
    exact ⟨.inl, fun h => h.elim id fun e => e ▸ hm⟩
  · rw [List.mem_append, List.mem_singleton]
 rw [key, h x]
 constructor
 · rintro ((h1 | ⟨t', ht, e⟩) | e)
   · exact .inl h1
   · exact .inr ⟨t', List.mem_append_left _ ht, e⟩
   · exact .inr ⟨t, by simp, e⟩
 · rintro (h1 | ⟨t', ht, e⟩)
   · exact .inl (.inl h1)
   · rcases List.mem_append.1 ht with ht | ht
     · exact .inl (.inr ⟨t', ht, e⟩)
     · rw [List.mem_singleton.1 ht] at e; exact .inr e
theorem More.next (h : More s l p al pls pl ss ks) (hs : ∀ t, t ∈ ss ↔ t ∈ al) : More s l p al (pls ++ [pl]) pl [] ks := fun x => by
 rw [h x]
 constructor
 · rintro (⟨q, hq, r⟩ | ⟨t, ht, e⟩)
   · exact .inl ⟨q, List.mem_append_left _ hq, r⟩
   · exact .inl ⟨pl, by simp, t, (hs t).1 ht, e⟩
 · rintro (⟨q, hq, r⟩ | ⟨t, ht, _⟩)
   · rcases List.mem_append.1 hq with hq | hq
     · exact .inl ⟨q, hq, r⟩
     · rw [List.mem_singleton.1 hq] at r
       obtain ⟨t, ht, e⟩ := r
       exact .inr ⟨t, (hs t).2 ht, e⟩
   · cases ht
theorem mem_step (x : List Int) : x ∈ stepL s l p al ↔ ∃ q ∈ posL (ivOf l (cntL l p)), ∃ t ∈ al, x = addT s l p q t := by
 unfold stepL
 rw [mem_dedup, List.mem_flatMap]
 constructor
 · rintro ⟨q, hq, hx⟩
   obtain ⟨t, ht, e⟩ := List.mem_map.1 hx
   exact ⟨q, hq, t, ht, e.symm⟩
 · rintro ⟨q, hq, t, ht, e⟩
   exact ⟨q, hq, List.mem_map.2 ⟨t, ht, e.symm⟩⟩
theorem More.many {n : Nat} (h : More s l p al pls pl ss ks) (hp : ∀ q ∈ pls, q ∈ posL (ivOf l (cntL l p))) (hl : pl ∈ posL (ivOf l (cntL l p))) (hs : ∀ t ∈ ss, t ∈ al) (hn : ks.Nodup) (ho : ordTo s l n p = some al) (hb : 4096 < ks.length) : ordTo s l n (p + 1) = none := by
 have hsub : ks.length ≤ (stepL s l p al).length := len_le_of_sub ks _ hn fun x hx => by
  rw [mem_step]
  rcases (h x).1 hx with ⟨q, hq, r⟩ | ⟨t, ht, e⟩
  · exact ⟨q, hp q hq, r⟩
  · exact ⟨pl, hl, t, hs t ht, e⟩
 unfold ordTo
 rw [ho]
 simp only
 rw [if_pos (by omega)]
theorem More.all {n : Nat} (h : More s l p al (posL (ivOf l (cntL l p))) pl [] ks) (_hn : ks.Nodup) (ho : ordTo s l n p = some al) (hb : ks.length ≤ 4096) : ∃ al', ordTo s l n (p + 1) = some al' ∧ ∀ x, x ∈ ks ↔ x ∈ al' := by
 have hm : ∀ x, x ∈ ks ↔ x ∈ stepL s l p al := fun x => by rw [h x, mem_step]; simp
 have hlen : (stepL s l p al).length ≤ ks.length := len_le_of_sub _ _ (nodup_dedup _) fun x hx => (hm x).2 hx
 refine ⟨stepL s l p al, ?_, hm⟩
 unfold ordTo
 rw [ho]
 simp only
 rw [if_neg (by omega)]
theorem ordTo_none {n m p : Nat} (h : ordTo s l n p = none) (hp : p ≤ m) : ordTo s l n m = none := by
 induction m with
 | zero => obtain rfl : p = 0 := by omega
           exact h
 | succ m ih =>
  by_cases e : p = m + 1
  · subst e; exact h
  · unfold ordTo; rw [ih (by omega)]
end
def ordR (s : Sh) (l : List Rs) : List (List Int) := if rkE s l ≠ 0 then [] else (ordO s l).getD []
theorem ordE_bad {s : Sh} {l : List Rs} (h : rkE s l ≠ 0) : rankE s l = rkE s l ∧ ordR s l = [] := ⟨by unfold rankE; rw [if_pos h], by unfold ordR; rw [if_pos h]⟩
theorem ordE_none {s : Sh} {l : List Rs} (h : rkE s l = 0) (h2 : ordO s l = none) : rankE s l = 2 ∧ ordR s l = [] := ⟨by unfold rankE; rw [if_neg (fun e => e h), h2], by unfold ordR; rw [if_neg (fun e => e h), h2]; rfl⟩
theorem ordE_some {s : Sh} {l : List Rs} {x : List (List Int)} (h : rkE s l = 0) (h2 : ordO s l = some x) : rankE s l = 0 ∧ ordR s l = x := ⟨by unfold rankE; rw [if_neg (fun e => e h), h2], by unfold ordR; rw [if_neg (fun e => e h), h2]; rfl⟩
theorem ord8_none {s : Sh} {l : List Rs} (h : l.all (okRs s) = true) (h1 : 1 ≤ s.cs) (h8 : s.cs ≤ 8) (hn : ordTo s l 8 s.ps.toNat = none) : ordO s l = none := by
 obtain ⟨c, hc⟩ : ∃ c : Nat, s.cs = (c : Int) := ⟨s.cs.toNat, by omega⟩
 have := ordTo_pad h (C := c) (by omega) (8 - c) s.ps.toNat
 rw [show c + (8 - c) = 8 by omega, hn] at this
 unfold ordO
 rw [hc, Int.toNat_natCast]
 cases e : ordTo s l c s.ps.toNat with
 | none => rfl
 | some a => rw [e] at this; cases this
theorem ord8_some {s : Sh} {l : List Rs} (h : l.all (okRs s) = true) (h1 : 1 ≤ s.cs) (h8 : s.cs ≤ 8) {al : List (List Int)} (hn : ordTo s l 8 s.ps.toNat = some al) :
 ∃ al0, ordO s l = some (sortP al0) ∧ al = al0.map (fun t => t ++ List.replicate (8 - s.cs.toNat) 0) ∧ (∀ t ∈ al0, t.length = s.cs.toNat) ∧ al0.Nodup := by
 obtain ⟨c, hc⟩ : ∃ c : Nat, s.cs = (c : Int) := ⟨s.cs.toNat, by omega⟩
 have hp := ordTo_pad h (C := c) (by omega) (8 - c) s.ps.toNat
 rw [show c + (8 - c) = 8 by omega, hn] at hp
 cases e : ordTo s l c s.ps.toNat with
 | none => rw [e] at hp; cases hp
 | some a =>
  rw [e, Option.map_some] at hp
  injection hp with hp
  obtain ⟨hA, _⟩ := ordTo_all h (C := c) (by omega) e
  refine ⟨a, ?_, ?_, ?_, hA.nd⟩
  · unfold ordO; rw [hc, Int.toNat_natCast, e]; rfl
  · rw [hc, Int.toNat_natCast]; exact hp
  · rw [hc, Int.toNat_natCast]; exact hA.len
theorem ta_nil (w : World) : (Instr.typeAssert .nilIface 20 30 true).run Tryz.prog w = .ok (.tuple #[.int .i64 0, .bool false]) w := by kernel_rfl
theorem ta_two (w : World) : (Instr.typeAssert (.iface 30 (.int .i64 2)) 20 30 true).run Tryz.prog w = .ok (.tuple #[.int .i64 2, .bool true]) w := by kernel_rfl
set_option maxRecDepth 20000 in
theorem catch_idle (n : Nat) (p q : Addr) (w : World) : CallsDIn Fence.wide n Tryz.prog 76 #[.pointer (some p), .pointer (some q)] .returning w fun e u' w' => e = .returned (.tuple #[]) ∧ u' = .returning ∧ w' = w := by
 refine callsDIn_of_wpSIn Tryz.func76 rfl trivial fun c₀ cs hu => ?_
 simp only [Tryz.ntmps76, List.size_toArray, List.length_cons, List.length_nil, Nat.reduceAdd, Nat.reduceSub, Array.replicate_succ, Array.replicate_zero, List.push_toArray, List.append_toArray, List.nil_append, List.cons_append]
 apply wpSIn_seq
 apply wpSIn_region
 simp [wpOpsSIn, go_sem, recoverD, hu, Exit.thenS, ta_nil, Fence.wide]
 refine wpSIn_of_wpIn rfl (wpIn_wide.2 ?_)
 go_wp2
 refine ⟨rfl, .returning, by cases c₀; simp_all, _, results_none Tryz.results76 _ _ _, rfl, rfl, rfl⟩
set_option maxRecDepth 20000 in
theorem catch_two (n : Nat) (B : Nat) (x : Value) (y : Int) (w : World) (hx : w.cell? ⟨B + 1, 0, none⟩ = some x) (fx : w.frozen? ⟨B + 1, 0, none⟩ = false) (_lx : B + 1 + 1 < w.heap.size) (hq : w.cell? ⟨B + 1 + 1, 0, none⟩ = some (.int .i64 y)) (fq : w.frozen? ⟨B + 1 + 1, 0, none⟩ = false) : CallsDIn Fence.wide n Tryz.prog 76 #[.pointer (some ⟨B + 1, 0, none⟩), .pointer (some ⟨B + 1 + 1, 0, none⟩)] (.panicking [{ v := .iface 30 (.int .i64 2), recovered := false }]) w fun e u' w' => e = .returned (.tuple #[]) ∧ u' = .panicking [{ v := .iface 30 (.int .i64 2), recovered := true }] ∧ w' = (w.setCell ⟨B + 1, 0, none⟩ (.slice none 0 0)).setCell ⟨B + 1 + 1, 0, none⟩ (.int .i64 2) := by
 refine callsDIn_of_wpSIn Tryz.func76 rfl trivial fun c₀ cs hu => ?_
 simp only [Tryz.ntmps76, List.size_toArray, List.length_cons, List.length_nil, Nat.reduceAdd, Nat.reduceSub, Array.replicate_succ, Array.replicate_zero, List.push_toArray, List.append_toArray, List.nil_append, List.cons_append]
 apply wpSIn_seq
 apply wpSIn_region
 simp [wpOpsSIn, go_sem, recoverD, hu, Exit.thenS, ta_two, Fence.wide]
 refine wpSIn_of_wpIn rfl (wpIn_wide.2 ?_)
 go_wp2
 refine ⟨rfl, _, rfl, _, results_none Tryz.results76 _ _ _, rfl, rfl, rfl⟩
end Go.Proofs.YtehoidohallfcaaGreatDoor
