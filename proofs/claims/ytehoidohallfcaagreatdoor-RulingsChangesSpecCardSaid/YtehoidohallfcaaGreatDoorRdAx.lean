/- The references' small functions: is it in a list, between, sign, held, places, ranks. -/
import Derived.Test.YtehoidohallfcaaGreatDoorPlN
import Derived.Test.YtehoidohallfcaaGreatDoorRfX
namespace Go.Proofs.YtehoidohallfcaaGreatDoor
open Go.RowKit
set_option maxHeartbeats 1000000 in
theorem in13_any (a : Option Addr) (n c : Nat) (l : List Int) (x : Int) (W : World) (h0 : Ints W a n c l) :
 Calls Tryz.prog 176 #[.slice a n c, .int .i64 x] W fun e w' => e = .returned (.bool (decide (x ∈ l))) ∧ w' = W := by
 have HL := Lib.hid h0.len
 have mL := h0.mx
 have cL := h0.cap
 unfold maxLen at mL
 go_enter Tryz.func176, Tryz.ntmps176
 go_wp2_with fail
 go_loop [5] (fun i => ∃ k : Nat, i = .int .i64 k ∧ k ≤ n ∧ Hid (∀ j, j < k → l[j]? ≠ some x)) (fun i => n - (intOf i).toNat)
 case atStart => exact ⟨0, rfl, by omega, Lib.hid (fun j hj => by omega)⟩
 case round =>
  obtain ⟨k, rfl, hk, HA⟩ := hrel
  have s0 : (0 : Int) ≤ (k : Int) := by omega
  by_cases hlt : k < n
  · have s1 : (k : Int) < (n : Int) := by omega
    obtain ⟨b, o, rfl, hb⟩ := h0.at' (by omega)
    obtain ⟨y, hy⟩ := h0.has hlt
    have e0 := h0.get hy
    have HY := Lib.hid hy
    clear hy
    by_cases hxy : y = x
    · have n1 : (y == x) = true := by simpa using hxy
      have HR : Hid (decide (x ∈ l) = true) := Lib.hid (by rw [decide_eq_true_eq, ← hxy]; exact List.mem_of_getElem? HY.out)
      clear hxy
      go_wp2_with fail
      go_ret
      exact ⟨by rw [HR.out]; rfl, rfl⟩
    · have n1 : (y == x) = false := by simpa using hxy
      have HN : Hid (∀ j, j < k + 1 → l[j]? ≠ some x) := Lib.hid fun j hj => by
       by_cases e : j = k
       · subst e; rw [HY.out]; intro h; injection h with h; exact hxy h
       · exact HA.out j (by omega)
      clear hxy
      go_wp2_with fail
      go_round
      case rel => exact ⟨k + 1, by go_num, by omega, HN⟩
      case measure => simp [intOf]; omega
  · obtain rfl : n = k := by omega
    have HR : Hid (decide (x ∈ l) = false) := Lib.hid (by
     rw [decide_eq_false_iff_not]
     intro h
     obtain ⟨j, hj, e⟩ := List.mem_iff_getElem.1 h
     rw [HL.out] at hj
     exact HA.out j hj (by rw [← e]; exact List.getElem?_eq_getElem _))
    go_wp2_with fail
    go_ret
    exact ⟨by rw [HR.out]; rfl, rfl⟩
set_option maxHeartbeats 1000000 in
theorem rbtw_any (a : Option Addr) (n c : Nat) (l : List Int) (lo hi : Int) (W : World) (h0 : Ints W a n c l) :
 Calls Tryz.prog 116 #[.slice a n c, .int .i64 lo, .int .i64 hi] W fun e w' => e = .returned (.bool (betw lo hi l)) ∧ w' = W := by
 have HL := Lib.hid h0.len
 have mL := h0.mx
 have cL := h0.cap
 unfold maxLen at mL
 go_enter Tryz.func116, Tryz.ntmps116
 go_wp2_with fail
 go_loop [7] (fun i => ∃ k : Nat, i = .int .i64 k ∧ k ≤ n ∧ Hid (∀ j y, j < k → l[j]? = some y → lo ≤ y ∧ y ≤ hi)) (fun i => n - (intOf i).toNat)
 case atStart => exact ⟨0, rfl, by omega, Lib.hid (fun j _ hj => by omega)⟩
 case round =>
  obtain ⟨k, rfl, hk, HA⟩ := hrel
  have s0 : (0 : Int) ≤ (k : Int) := by omega
  by_cases hlt : k < n
  · have s1 : (k : Int) < (n : Int) := by omega
    obtain ⟨b, o, rfl, hb⟩ := h0.at' (by omega)
    obtain ⟨y, hy⟩ := h0.has hlt
    have e0 := h0.get hy
    have HY := Lib.hid hy
    clear hy
    by_cases c1 : y < lo
    · have n1 : decide (y < lo) = true := by simpa using c1
      have HR : Hid (betw lo hi l = false) := Lib.hid (by
       unfold betw
       rw [List.all_eq_false]
       exact ⟨y, List.mem_of_getElem? HY.out, by simp; omega⟩)
      go_wp2_with fail
      go_ret
      exact ⟨by rw [HR.out]; rfl, rfl⟩
    have n1 : decide (y < lo) = false := by simpa using c1
    by_cases c2 : hi < y
    · have n2 : decide (hi < y) = true := by simpa using c2
      have HR : Hid (betw lo hi l = false) := Lib.hid (by
       unfold betw
       rw [List.all_eq_false]
       exact ⟨y, List.mem_of_getElem? HY.out, by simp; omega⟩)
      go_wp2_with fail
      go_ret
      exact ⟨by rw [HR.out]; rfl, rfl⟩
    have n2 : decide (hi < y) = false := by simpa using c2
    have HN : Hid (∀ j z, j < k + 1 → l[j]? = some z → lo ≤ z ∧ z ≤ hi) := Lib.hid fun j z hj hz => by
     by_cases e : j = k
     · subst e; rw [HY.out] at hz; injection hz with hz; subst hz; omega
     · exact HA.out j z (by omega) hz
    clear c1 c2
    go_wp2_with fail
    go_round
    case rel => exact ⟨k + 1, by go_num, by omega, HN⟩
    case measure => simp [intOf]; omega
  · obtain rfl : n = k := by omega
    have HR : Hid (betw lo hi l = true) := Lib.hid (by
     unfold betw
     rw [List.all_eq_true]
     intro y hy
     obtain ⟨j, hj, e⟩ := List.mem_iff_getElem.1 hy
     rw [HL.out] at hj
     have := HA.out j y hj (by rw [← e]; exact List.getElem?_eq_getElem _)
     simp; omega)
    go_wp2_with fail
    go_ret
    exact ⟨by rw [HR.out]; rfl, rfl⟩
theorem rsign_any (a b : Int) (W : World) : Calls Tryz.prog 58 #[.int .i64 a, .int .i64 b] W fun e w' => e = .returned (.int .i64 (sgnI a b)) ∧ w' = W := by
 by_cases h1 : a < b
 · have n1 : decide (a < b) = true := by simpa using h1
   have HR : Hid (sgnI a b = -1) := Lib.hid (by unfold sgnI; rw [if_neg (by omega), if_pos h1])
   clear h1
   go_enter Tryz.func58, Tryz.ntmps58
   go_wp2_with fail
   go_ret
   exact ⟨by rw [HR.out]; rfl, rfl⟩
 have n1 : decide (a < b) = false := by simpa using h1
 by_cases h2 : b < a
 · have n2 : decide (b < a) = true := by simpa using h2
   have HR : Hid (sgnI a b = 1) := Lib.hid (by unfold sgnI; rw [if_neg (by omega), if_neg (by omega)])
   clear h1 h2
   go_enter Tryz.func58, Tryz.ntmps58
   go_wp2_with fail
   go_ret
   exact ⟨by rw [HR.out]; rfl, rfl⟩
 have n2 : decide (b < a) = false := by simpa using h2
 have HR : Hid (sgnI a b = 0) := Lib.hid (by unfold sgnI; rw [if_pos (by omega)])
 clear h1 h2
 go_enter Tryz.func58, Tryz.ntmps58
 go_wp2_with fail
 go_ret
 exact ⟨by rw [HR.out]; rfl, rfl⟩
theorem held_any (n : Int) (W : World) : Calls Tryz.prog 266 #[.int .i64 n] W fun e w' => e = .returned (.int .i64 (holdI n)) ∧ w' = W := by
 go_enter Tryz.func266, Tryz.ntmps266
 go_wp2_with fail
 all_goals
  go_ret
  refine ⟨congrArg (fun z => Ending.returned (Value.int .i64 z)) (?_ : _ = holdI n), rfl⟩
  unfold holdI topI
  omega
open Go.RowKit
def placesTo (t : List Int) (k : Nat) : List Int := (placesL t).take k
theorem placesTo_step {t : List Int} {k : Nat} {x : Int} (h : t[k]? = some x) : placesTo t (k + 1) = placesTo t k ++ [plTo t x t.length] := by
 unfold placesTo
 rw [List.take_add_one, places_get h]; rfl
theorem placesTo_all (t : List Int) {n : Nat} (h : t.length = n) : placesTo t n = placesL t := by
 unfold placesTo
 rw [List.take_of_length_le (by simp [placesL, h])]
theorem placesTo_len (t : List Int) (k : Nat) (h : k ≤ t.length) : (placesTo t k).length = k := by unfold placesTo; simp [placesL]; omega
set_option maxHeartbeats 4000000 in
theorem places_any (a : Option Addr) (n c : Nat) (x : List Int) (W : World) (h0 : Ints W a n c x) (hn : n ≤ 1000000) :
 Calls Tryz.prog 123 #[.slice a n c] W (RetOwn W 3 (placesL x)) := by
 obtain ⟨i3, hi3, hz30, hz31, hz32⟩ := info_parts info_int
 have HL := Lib.hid h0.len
 have mL := h0.mx
 have cL := h0.cap
 unfold maxLen at mL
 go_enter Tryz.func123, Tryz.ntmps123
 go_wp2_with fail
 go_loopw [3, 4] (fun u i wr => ∃ k : Nat, i = .int .i64 k ∧ k ≤ n ∧ OwnInts wr W.heap.size 3 u (placesTo x k) ∧ Below W.heap.size W wr) (fun _ i _ => n - (intOf i).toNat)
 case atStart => exact ⟨0, rfl, by omega, OwnInts.nil _ _ _, Below.refl _ _⟩
 case round =>
  obtain ⟨k, rfl, hk, hO, hB⟩ := hrel
  have s0 : (0 : Int) ≤ (k : Int) := by omega
  by_cases hlt : k < n
  rotate_left
  · obtain rfl : n = k := by omega
    have HO : Hid (OwnInts wr W.heap.size 3 u3 (placesL x)) := Lib.hid (by rw [← placesTo_all x HL.out]; exact hO)
    clear hO
    go_wp2_with fail
    go_ret
    exact ⟨_, rfl, HO.out, hB⟩
  have s1 : (k : Int) < (n : Int) := by omega
  obtain ⟨b, o, rfl, hb⟩ := h0.at' (by omega)
  obtain ⟨z, hz⟩ := h0.has hlt
  have e0 := (h0.below hB).get hz
  have HZ := Lib.hid hz
  have hol := hO.lt
  have hsz := hB.size
  have hll := placesTo_len x k (by rw [HL.out]; omega)
  obtain ⟨L, hLe⟩ : ∃ L, placesTo x k = L := ⟨_, rfl⟩
  have HLE := Lib.hid hLe
  rw [hLe] at hO hll
  unfold OwnInts at hO
  rw [hll] at hO
  have HLL := Lib.hid hll
  clear hLe hz hll
  obtain ⟨av, cv, rfl, _, _⟩ := own_slice hO
  obtain ⟨wo, hwo⟩ : ∃ wo, wo = wr := ⟨_, rfl⟩
  rw [← hwo] at hO hB hol hsz e0 ⊢
  clear hwo
  go_wp2_with fail
  go_loopw [5, 6] (fun r i wr => ∃ j : Nat, i = .int .i64 j ∧ j ≤ n ∧ r = .int .i64 (plTo x z j) ∧ Below wo.heap.size wo wr) (fun _ i _ => n - (intOf i).toNat)
  case atStart => exact ⟨0, rfl, by omega, by rw [plTo_0], Below.refl _ _⟩
  case round =>
   obtain ⟨j, rfl, hj, rfl, hBj⟩ := hrel
   have hgl := plTo_bd x z j
   have t0 : (0 : Int) ≤ (j : Int) := by omega
   by_cases hltj : j < n
   · obtain ⟨m, hm⟩ := h0.has hltj
     have e1 := (h0.below (hB.on hBj)).get hm
     have e2 := (h0.below (hB.on hBj)).get HZ.out
     have HS := Lib.hid (plTo_step (x := z) hm)
     obtain ⟨g, hg⟩ : ∃ g, plTo x z j = g := ⟨_, rfl⟩
     rw [hg] at hgl HS ⊢
     have t1 : (j : Int) < (n : Int) := by omega
     have HBj := Lib.hid hBj
     have hw : IntKind.i64.wrap (g + 1) = g + 1 := by rw [IntKind.wrap_i64]; omega
     clear hm hg hBj e0
     by_cases hzm : m < z
     · have n1 : decide (m < z) = true := by simpa using hzm
       rw [if_pos hzm] at HS
       clear hzm
       go_wp2_with (go_quiet (fail))
       go_roundw
       case rel => exact ⟨j + 1, by go_num, by omega, by rw [HS.out], below_drewN HBj.out _⟩
       case measure => simp [intOf]; omega
     · have n1 : decide (m < z) = false := by simpa using hzm
       rw [if_neg hzm] at HS
       clear hzm
       go_wp2_with (go_quiet (fail))
       go_roundw
       case rel => exact ⟨j + 1, by go_num, by omega, by rw [HS.out], below_drewN HBj.out _⟩
       case measure => simp [intOf]; omega
   · obtain rfl : n = j := by omega
     have HR : Hid (placesTo x (k + 1) = L ++ [plTo x z n]) := Lib.hid (by rw [placesTo_step HZ.out, HLE.out, HL.out])
     obtain ⟨g, hg⟩ : ∃ g, plTo x z n = g := ⟨_, rfl⟩
     rw [hg] at HR hgl ⊢
     have hO2 := ownsRow_below' hO hBj
     have hB2 := hB.on hBj
     have hsz2 := hB2.size
     clear hg hO hBj e0
     go_wp2_with (at_builtin; refine wpList_append_own2 _ rfl _ _ 22 rfl W.heap.size 3 i3 (.int .i64 0) 1 8 Tryz.underlying22 hi3 hz30 hz31 hz32 rfl (by decide) _ _ _ (hO2.alloc _) rfl ⟨_, 0, none⟩ 1 1 [.int .i64 g] rfl rfl (cell_one_new _ _ _) (by simp [Value.oneCell']) (by unfold maxLen; omega) (by omega) (by first | omega | (simp; omega)) ?_; intro v' w1 hown' hgrow hfr)
     go_roundw
     case rel =>
      refine ⟨k + 1, by go_num, by omega, ?_, (hB2.alloc hsz2 _).grown hgrow (by simp; omega) (fun q e => (hol q e).1)⟩
      rw [HR.out]
      exact OwnInts.snoc (by rw [HLL.out]; exact hown')
     case measure => simp [intOf]; omega
def grP (x : List Int) (z : Int) (k : Nat) : Int := (grN x z k : Int) + 1
theorem grP_0 (x : List Int) (z : Int) : grP x z 0 = 1 := by simp [grP, grN]
theorem grP_bd (x : List Int) (z : Int) (k : Nat) : 1 ≤ grP x z k ∧ grP x z k ≤ k + 1 := by unfold grP; have := grN_le x z k; omega
theorem grP_step {t : List Int} {x y : Int} {k : Nat} (h : t[k]? = some y) : grP t x (k + 1) = if x < y then grP t x k + 1 else grP t x k := by
 unfold grP; rw [grN_step h]
 by_cases h2 : x < y
 · rw [if_pos h2, if_pos h2]; omega
 · rw [if_neg h2, if_neg h2]; omega
theorem rankTo_stepP {x : List Int} {n : Int} {k : Nat} (h : x[k]? = some n) : rankTo x (k + 1) = rankTo x k ++ [grP x n x.length] := rankTo_step h
theorem rankTo_all (x : List Int) {n : Nat} (h : x.length = n) : rankTo x n = rankL x := by unfold rankTo rankL; rw [List.take_of_length_le (by omega)]
set_option maxHeartbeats 4000000 in
theorem rrank_any (a : Option Addr) (n c : Nat) (x : List Int) (W : World) (h0 : Ints W a n c x) (hn : n ≤ 1000000) :
 Calls Tryz.prog 57 #[.slice a n c] W (RetOwn W 3 (rankL x)) := by
 obtain ⟨i3, hi3, hz30, hz31, hz32⟩ := info_parts info_int
 have HL := Lib.hid h0.len
 have mL := h0.mx
 have cL := h0.cap
 unfold maxLen at mL
 go_enter Tryz.func57, Tryz.ntmps57
 go_wp2_with fail
 go_loopw [3, 4] (fun u i wr => ∃ k : Nat, i = .int .i64 k ∧ k ≤ n ∧ OwnInts wr W.heap.size 3 u (rankTo x k) ∧ Below W.heap.size W wr) (fun _ i _ => n - (intOf i).toNat)
 case atStart => exact ⟨0, rfl, by omega, OwnInts.nil _ _ _, Below.refl _ _⟩
 case round =>
  obtain ⟨k, rfl, hk, hO, hB⟩ := hrel
  have s0 : (0 : Int) ≤ (k : Int) := by omega
  by_cases hlt : k < n
  rotate_left
  · obtain rfl : n = k := by omega
    have HO : Hid (OwnInts wr W.heap.size 3 u3 (rankL x)) := Lib.hid (by rw [← rankTo_all x HL.out]; exact hO)
    clear hO
    go_wp2_with fail
    go_ret
    exact ⟨_, rfl, HO.out, hB⟩
  have s1 : (k : Int) < (n : Int) := by omega
  obtain ⟨b, o, rfl, hb⟩ := h0.at' (by omega)
  obtain ⟨z, hz⟩ := h0.has hlt
  have e0 := (h0.below hB).get hz
  have HZ := Lib.hid hz
  have hol := hO.lt
  have hsz := hB.size
  have hll := rankTo_len x (k := k) (by rw [HL.out]; omega)
  obtain ⟨L, hLe⟩ : ∃ L, rankTo x k = L := ⟨_, rfl⟩
  have HLE := Lib.hid hLe
  rw [hLe] at hO hll
  unfold OwnInts at hO
  rw [hll] at hO
  have HLL := Lib.hid hll
  clear hLe hz hll
  obtain ⟨av, cv, rfl, _, _⟩ := own_slice hO
  obtain ⟨wo, hwo⟩ : ∃ wo, wo = wr := ⟨_, rfl⟩
  rw [← hwo] at hO hB hol hsz e0 ⊢
  clear hwo
  go_wp2_with fail
  go_loopw [5, 6] (fun r i wr => ∃ j : Nat, i = .int .i64 j ∧ j ≤ n ∧ r = .int .i64 (grP x z j) ∧ Below wo.heap.size wo wr) (fun _ i _ => n - (intOf i).toNat)
  case atStart => exact ⟨0, rfl, by omega, by rw [grP_0], Below.refl _ _⟩
  case round =>
   obtain ⟨j, rfl, hj, rfl, hBj⟩ := hrel
   have hgl := grP_bd x z j
   have t0 : (0 : Int) ≤ (j : Int) := by omega
   by_cases hltj : j < n
   · obtain ⟨m, hm⟩ := h0.has hltj
     have e1 := (h0.below (hB.on hBj)).get hm
     have e2 := (h0.below (hB.on hBj)).get HZ.out
     have HS := Lib.hid (grP_step (x := z) hm)
     obtain ⟨g, hg⟩ : ∃ g, grP x z j = g := ⟨_, rfl⟩
     rw [hg] at hgl HS ⊢
     have t1 : (j : Int) < (n : Int) := by omega
     have HBj := Lib.hid hBj
     have hw : IntKind.i64.wrap (g + 1) = g + 1 := by rw [IntKind.wrap_i64]; omega
     clear hm hg hBj e0
     by_cases hzm : z < m
     · have n1 : decide (z < m) = true := by simpa using hzm
       rw [if_pos hzm] at HS
       clear hzm
       go_wp2_with (go_quiet (fail))
       go_roundw
       case rel => exact ⟨j + 1, by go_num, by omega, by rw [HS.out], below_drewN HBj.out _⟩
       case measure => simp [intOf]; omega
     · have n1 : decide (z < m) = false := by simpa using hzm
       rw [if_neg hzm] at HS
       clear hzm
       go_wp2_with (go_quiet (fail))
       go_roundw
       case rel => exact ⟨j + 1, by go_num, by omega, by rw [HS.out], below_drewN HBj.out _⟩
       case measure => simp [intOf]; omega
   · obtain rfl : n = j := by omega
     have HR : Hid (rankTo x (k + 1) = L ++ [grP x z n]) := Lib.hid (by rw [rankTo_stepP HZ.out, HLE.out, HL.out])
     obtain ⟨g, hg⟩ : ∃ g, grP x z n = g := ⟨_, rfl⟩
     rw [hg] at HR hgl ⊢
     have hO2 := ownsRow_below' hO hBj
     have hB2 := hB.on hBj
     have hsz2 := hB2.size
     clear hg hO hBj e0
     go_wp2_with (at_builtin; refine wpList_append_own2 _ rfl _ _ 22 rfl W.heap.size 3 i3 (.int .i64 0) 1 8 Tryz.underlying22 hi3 hz30 hz31 hz32 rfl (by decide) _ _ _ (hO2.alloc _) rfl ⟨_, 0, none⟩ 1 1 [.int .i64 g] rfl rfl (cell_one_new _ _ _) (by simp [Value.oneCell']) (by unfold maxLen; omega) (by omega) (by first | omega | (simp; omega)) ?_; intro v' w1 hown' hgrow hfr)
     go_roundw
     case rel =>
      refine ⟨k + 1, by go_num, by omega, ?_, (hB2.alloc hsz2 _).grown hgrow (by simp; omega) (fun q e => (hol q e).1)⟩
      rw [HR.out]
      exact OwnInts.snoc (by rw [HLL.out]; exact hown')
     case measure => simp [intOf]; omega
open Go.RowKit
theorem ordL_skip : ∀ {a b : List Int} {k : Nat} {x y : Int}, (∀ j, j < k → a[j]? = b[j]?) → a[k]? = some x → b[k]? = some y → x ≠ y → ordL a b = if x < y then -1 else 1
 | [], b, k, x, y, _, ha, _, _ => by simp at ha
 | u :: a, [], k, x, y, _, _, hb, _ => by simp at hb
 | u :: a, v :: b, 0, x, y, _, ha, hb, hne => by
  simp only [List.getElem?_cons_zero, Option.some.injEq] at ha hb
  subst ha hb
  unfold ordL
  by_cases h : u < v
  · rw [if_pos h, if_pos h]
  · rw [if_neg h, if_neg h, if_pos (by omega)]
 | u :: a, v :: b, k + 1, x, y, h, ha, hb, hne => by
  have h0 := h 0 (by omega)
  simp only [List.getElem?_cons_zero, Option.some.injEq] at h0
  subst h0
  unfold ordL
  rw [if_neg (by omega), if_neg (by omega)]
  exact ordL_skip (k := k) (fun j hj => by have := h (j + 1) (by omega); simpa using this) (by simpa using ha) (by simpa using hb) hne
theorem ltP_skip {a b : List Int} {k : Nat} {x y : Int} (h : ∀ j, j < k → a[j]? = b[j]?) (ha : a[k]? = some x) (hb : b[k]? = some y) (hne : x ≠ y) : ltP a b = decide (x < y) := by
 unfold ltP
 rw [ordL_skip h ha hb hne]
 by_cases c : x < y
 · rw [if_pos c, decide_eq_true c]; rfl
 · rw [if_neg c, decide_eq_false c]; rfl
theorem ltP_same {a b : List Int} {n : Nat} (ha : a.length = n) (hb : b.length = n) (h : ∀ j, j < n → a[j]? = b[j]?) : ltP a b = false := by
 have : a = b := by
  apply List.ext_getElem?
  intro j
  by_cases hj : j < n
  · exact h j hj
  · rw [List.getElem?_eq_none (by omega), List.getElem?_eq_none (by omega)]
 subst this
 exact ltP_irrefl _
set_option maxHeartbeats 2000000 in
theorem rless_any (a0 a1 : Option Addr) (n c0 c1 : Nat) (l x : List Int) (W : World) (h0 : Ints W a0 n c0 l) (h1 : Ints W a1 n c1 x) :
 Calls Tryz.prog 124 #[.slice a0 n c0, .slice a1 n c1] W fun e w' => RetB W (.bool (ltP l x)) e w' := by
 have HL0 := Lib.hid h0.len
 have HL1 := Lib.hid h1.len
 have m0 := h0.mx
 have k0 := h0.cap
 have m1 := h1.mx
 have k1 := h1.cap
 unfold maxLen at m0 m1
 go_enter Tryz.func124, Tryz.ntmps124
 go_wp2_with fail
 go_loopw [5] (fun i wr => ∃ k : Nat, i = .int .i64 k ∧ k ≤ n ∧ Hid (∀ j, j < k → l[j]? = x[j]?) ∧ Below W.heap.size W wr) (fun i _ => n - (intOf i).toNat)
 case atStart => exact ⟨0, rfl, by omega, Lib.hid (fun j hj => by omega), Below.refl _ _⟩
 case round =>
  obtain ⟨k, rfl, hk, HA, hB⟩ := hrel
  have s0 : (0 : Int) ≤ (k : Int) := by omega
  by_cases hlt : k < n
  · have s1 : (k : Int) < (n : Int) := by omega
    obtain ⟨b0, o0, rfl, hb0⟩ := h0.at' (by omega)
    obtain ⟨b1, o1, rfl, hb1⟩ := h1.at' (by omega)
    obtain ⟨u, hu⟩ := h0.has hlt
    obtain ⟨v, hv⟩ := h1.has hlt
    have e0 := (h0.below hB).get hu
    have e1 := (h1.below hB).get hv
    have HU := Lib.hid hu
    have HV := Lib.hid hv
    have HB := Lib.hid hB
    clear hu hv hB
    by_cases huv : u = v
    · have n1 : (u != v) = false := by simpa using huv
      have HN : Hid (∀ j, j < k + 1 → l[j]? = x[j]?) := Lib.hid fun j hj => by
       by_cases e : j = k
       · subst e; rw [HU.out, HV.out, huv]
       · exact HA.out j (by omega)
      clear huv
      go_wp2_with (go_quiet (fail))
      go_roundw
      case rel => exact ⟨k + 1, by go_num, by omega, HN, below_drewN HB.out _⟩
      case measure => simp [intOf]; omega
    · have n1 : (u != v) = true := by simpa using huv
      have HR : Hid (ltP l x = decide (u < v)) := Lib.hid (ltP_skip HA.out HU.out HV.out huv)
      clear huv
      go_wp2_with (go_quiet (fail))
      go_ret
      exact ⟨by rw [HR.out]; rfl, by first | exact below_drewN HB.out _ | exact below_drewN (below_drewN HB.out _) _⟩
  · obtain rfl : n = k := by omega
    have HR : Hid (ltP l x = false) := Lib.hid (ltP_same HL0.out HL1.out HA.out)
    go_wp2_with fail
    go_ret
    exact ⟨by rw [HR.out]; rfl, hB⟩
structure ElR (w : World) (us : List Value) (ll : List (List Int)) : Prop where
 len : us.length = ll.length
 at' : ∀ (i : Nat) (l : List Int), ll[i]? = some l → ∃ a n c, us[i]? = some (Value.slice a n c) ∧ Ints w a n c l
theorem ElR.below {w w' : World} {us : List Value} {ll : List (List Int)} (h : ElR w us ll) (hb : Below w.heap.size w w') : ElR w' us ll :=
 ⟨h.len, fun i l hl => let ⟨a, n, c, h1, h2⟩ := h.at' i l hl; ⟨a, n, c, h1, h2.below hb⟩⟩
theorem ElR.nil (w : World) : ElR w [] [] := ⟨rfl, fun i l h => by simp at h⟩
theorem ElR.app {w : World} {us vs : List Value} {ll mm : List (List Int)} (h : ElR w us ll) (k : ElR w vs mm) : ElR w (us ++ vs) (ll ++ mm) :=
 ⟨by rw [List.length_append, List.length_append, h.len, k.len], fun i l hl => by
  by_cases hi : i < ll.length
  · rw [List.getElem?_append_left hi] at hl
    rw [List.getElem?_append_left (by rw [h.len]; exact hi)]
    exact h.at' i l hl
  · rw [List.getElem?_append_right (by omega)] at hl
    rw [List.getElem?_append_right (by rw [h.len]; omega), h.len]
    exact k.at' _ l hl⟩
theorem ElR.one {w : World} {a : Option Addr} {n c : Nat} {x : List Int} (h : Ints w a n c x) : ElR w [.slice a n c] [x] :=
 ⟨rfl, fun i l hl => by
  cases i with
  | zero => simp only [List.getElem?_cons_zero, Option.some.injEq] at hl; subst hl; exact ⟨a, n, c, rfl, h⟩
  | succ i => simp at hl⟩
theorem ElR.take {w : World} {us : List Value} {ll : List (List Int)} (h : ElR w us ll) (k : Nat) : ElR w (us.take k) (ll.take k) :=
 ⟨by rw [List.length_take, List.length_take, h.len], fun i l hl => by
  rw [List.getElem?_take] at hl ⊢
  split at hl
  · rename_i hk; rw [if_pos hk]; exact h.at' i l hl
  · cases hl⟩
theorem ElR.drop {w : World} {us : List Value} {ll : List (List Int)} (h : ElR w us ll) (k : Nat) : ElR w (us.drop k) (ll.drop k) :=
 ⟨by rw [List.length_drop, List.length_drop, h.len], fun i l hl => by
  rw [List.getElem?_drop] at hl ⊢
  exact h.at' _ l hl⟩
theorem Rows.els {w : World} {a : Option Addr} {n c : Nat} {ll : List (List Int)} (h : Rows w a n c ll) : ∃ us, ElR w us ll ∧ us.length = n ∧ (∀ b o, a = some ⟨b, o, none⟩ → ∀ i u, us[i]? = some u → w.cell? ⟨b, o + i, none⟩ = some u) ∧ ∀ u ∈ us, u.oneCell' = true := by
 rcases Nat.eq_zero_or_pos n with h0 | h0
 · subst h0
   have : ll = [] := List.eq_nil_of_length_eq_zero h.len
   subst this
   exact ⟨[], ElR.nil w, rfl, fun _ _ _ i u hu => by simp at hu, fun u hu => by cases hu⟩
 · obtain ⟨b, o, rfl, hb⟩ := h.at' h0
   have key : ∀ m, m ≤ n → ∃ us : List Value, us.length = m ∧ (∀ i u, us[i]? = some u → w.cell? ⟨b, o + i, none⟩ = some u ∧ ∃ ai ni ci, u = .slice ai ni ci ∧ Ints w ai ni ci (ll[i]?.getD [])) := by
    intro m
    induction m with
    | zero => exact fun _ => ⟨[], rfl, fun i u hu => by simp at hu⟩
    | succ m ih =>
     intro hm
     obtain ⟨us, h1, h2⟩ := ih (by omega)
     obtain ⟨ai, ni, ci, h3, h4⟩ := h.row b o rfl m (by omega)
     refine ⟨us ++ [.slice ai ni ci], by simp [h1], fun i u hu => ?_⟩
     by_cases hi : i < m
     · rw [List.getElem?_append_left (by omega)] at hu; exact h2 i u hu
     · have hi2 := (List.getElem?_eq_some_iff.1 hu).1
       have : i = m := by simp at hi2; omega
       subst this
       rw [List.getElem?_append_right (by omega), h1, Nat.sub_self] at hu
       simp only [List.getElem?_cons_zero, Option.some.injEq] at hu
       subst hu
       exact ⟨h3, ai, ni, ci, rfl, h4⟩
   obtain ⟨us, h1, h2⟩ := key n (Nat.le_refl _)
   refine ⟨us, ⟨by rw [h1, h.len], fun i l hl => ?_⟩, h1, fun b' o' e i u hu => ?_, fun u hu => ?_⟩
   · have hi := (List.getElem?_eq_some_iff.1 hl).1
     obtain ⟨u, hu⟩ : ∃ u, us[i]? = some u := ⟨_, List.getElem?_eq_getElem (by rw [h1, ← h.len]; exact hi)⟩
     obtain ⟨_, ai, ni, ci, e, hI⟩ := h2 i u hu
     rw [hl] at hI
     exact ⟨ai, ni, ci, by rw [hu, e], hI⟩
   · injection e with e; injection e with e1 e2; subst e1 e2
     exact (h2 i u hu).1
   · obtain ⟨i, hi⟩ := List.mem_iff_getElem?.1 hu
     obtain ⟨_, ai, ni, ci, e, _⟩ := h2 i u hi
     rw [e]; rfl
theorem rows_of_own {w : World} {base : Nat} {e : TypeId} {a : Option Addr} {n c : Nat} {us : List Value} {ll : List (List Int)} (h : w.ownsRow base e 1 (.slice a n c) n us) (k : ElR w us ll) (hn : ll.length = n) : Rows w a n c ll := by
 rcases h.2 with ⟨e1, h0⟩ | ⟨g, cap, cur, e1, hb, hg, hnc, hcm, _⟩
 · subst h0
   injection e1 with x y z
   subst x z
   have : ll = [] := List.eq_nil_of_length_eq_zero hn
   subst this
   exact ⟨rfl, Nat.le_refl _, by simp [maxLen], fun h => absurd h (by omega), fun _ _ e => by cases e⟩
 · injection e1 with x y z
   subst x z
   refine ⟨hn, hnc, hcm, fun _ => ⟨g, 0, rfl, (Array.getElem?_eq_some_iff.1 hg).1⟩, fun b o e i hi => ?_⟩
   injection e with e; injection e with e2 e3; subst e2 e3
   obtain ⟨l, hl⟩ : ∃ l, ll[i]? = some l := ⟨_, List.getElem?_eq_getElem (by omega)⟩
   obtain ⟨ai, ni, ci, h1, h2⟩ := k.at' i l hl
   refine ⟨ai, ni, ci, ?_, by rw [hl]; exact h2⟩
   rw [Nat.zero_add, h.cellAt i (by rw [Nat.mul_one]; exact hi), h1]
end Go.Proofs.YtehoidohallfcaaGreatDoor
