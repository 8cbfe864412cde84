/- Contracts of points.inputs, name, sign. -/
import Derived.Test.YtehoidohallfcaaGreatDoorLxX
import Derived.Lib.AppendZerosOnto
import Derived.Deep.RegionHeld3
import Derived.Laws.EntriesVeiled
namespace Go.Proofs.YtehoidohallfcaaGreatDoor
open Go.RowKit
set_option maxHeartbeats 1000000 in
theorem name1_any (s : ByteArray) (W : World) : Calls Tryz.prog 156 #[.string s] W fun e w' => e = .returned (.slice (some ⟨W.heap.size, 0, none⟩) 1 1) ∧ w' = W.alloc (.cells #[.int .i64 1, .string s, .int .i64 0, .int .i64 0] 251) := by
 go_enter Tryz.func156, Tryz.ntmps156
 go_wp2_with fail
 go_ret
 exact ⟨rfl, rfl⟩
set_option maxHeartbeats 1000000 in
theorem sign1_any (s : ByteArray) (W : World) : Calls Tryz.prog 153 #[.string s] W fun e w' => e = .returned (.slice (some ⟨W.heap.size, 0, none⟩) 1 1) ∧ w' = W.alloc (.cells #[.int .i64 3, .string s, .int .i64 0, .int .i64 0] 251) := by
 go_enter Tryz.func153, Tryz.ntmps153
 go_wp2_with fail
 go_ret
 exact ⟨rfl, rfl⟩
theorem sl_one (W : World) (t : Tk) (T : TypeId) : SL encT 4 (W.alloc (.cells #[.int .i64 t.kd, .string t.tx, .int .i64 t.n, .int .i64 t.at'] T)) (some ⟨W.heap.size, 0, none⟩) 1 1 [t] where
 len := rfl
 cap := Nat.le_refl _
 mx := by unfold maxLen; omega
 at' := fun _ => ⟨_, _, rfl, by simp⟩
 cell := fun b o e i x hx j v hv => by
  obtain ⟨rfl, rfl⟩ : W.heap.size = b ∧ 0 = o := by simpa using e
  have hi : i = 0 := by have := (List.getElem?_eq_some_iff.1 hx).1; simp at this; exact this
  subst hi
  simp only [List.getElem?_cons_zero, Option.some.injEq] at hx
  subst hx
  have hb := Box.new W #[.int .i64 t.kd, .string t.tx, .int .i64 t.n, .int .i64 t.at'] T
  rw [Nat.zero_mul, Nat.add_zero, Nat.zero_add, hb.cell j, ← hv]
  simp [encT]
def inB : List ByteArray := [⟨#[112, 108, 97, 99, 101]⟩, ⟨#[115, 111, 108, 118, 101, 114, 115]⟩, ⟨#[108, 101, 118, 101, 108]⟩, ⟨#[99, 108, 117, 101, 115]⟩, ⟨#[116, 114, 105, 101, 115]⟩]
theorem inputs_any (W : World) : Calls Tryz.prog 87 #[] W fun e w' => e = .returned (.slice (some ⟨W.heap.size, 0, none⟩) 5 5) ∧ w' = W.alloc (.cells (inB.map Value.string).toArray 9) := by
 go_enter Tryz.func87, Tryz.ntmps87
 go_wp2_with fail
 go_ret
 exact ⟨rfl, rfl⟩
theorem in_names : ∀ s ∈ inB, nameB s = true := by decide +kernel
end Go.Proofs.YtehoidohallfcaaGreatDoor
/- Contracts of slices.Grow and slices.Concat at tokens. -/
namespace Go.Proofs.YtehoidohallfcaaGreatDoor
open Go.RowKit
theorem info_tok : (Tryz.prog.info? 251).map (fun i => (i.zero, i.size, i.bytes)) = some (some (.agg #[.int .i64 0, .string ⟨#[]⟩, .int .i64 0, .int .i64 0]), 4, 40) := by kernel_rfl
theorem tok_oc (t : Tk) : ∀ u ∈ encT t, u.oneCell' = true := by intro u hu; simp [encT] at hu; rcases hu with rfl | rfl | rfl | rfl <;> rfl
theorem toks_oc (l : List Tk) : ∀ u ∈ l.flatMap encT, u.oneCell' = true := by
 intro u hu
 obtain ⟨t, _, ht⟩ := List.mem_flatMap.1 hu
 exact tok_oc t u ht
set_option maxHeartbeats 2000000 in
set_option maxRecDepth 100000 in
theorem grow_any (n : Nat) (hn : n ≤ 1000000) (W : World) : Calls Tryz.prog 249 #[.slice none 0 0, .int .i64 n] W fun e w' => RetSL encT 4 W 251 [] e w' := by
 by_cases h0 : n = 0
 · subst h0
   go_enter Tryz.func249, Tryz.ntmps249
   go_wp2_with fail
   go_ret
   exact ⟨_, rfl, OwnSL.nil _ _ _ _ _, Below.refl _ _⟩
 obtain ⟨i, hi, hz, hs, hb⟩ := info_parts info_tok
 have hr := Lib.run_append_nil_zeros (P := Tryz.prog) W 197 3 197 251 i _ .i64 .i64 Tryz.underlying197 Tryz.underlying3 hi hz n (by omega) (by omega) (by omega) (by rw [hb]; omega)
 have hg := grownCap_ge W n 0 251
 have hm := grownCap_le_maxLen W n 0 251 (by unfold maxLen; omega)
 obtain ⟨G, hG⟩ : ∃ G, G = grownCap W n 0 251 := ⟨_, rfl⟩
 rw [← hG] at hr hg hm
 have hm' : G ≤ 9223372036854775807 := by unfold maxLen at hm; omega
 have HM := Lib.hid hm
 have hn0 : (0 : Int) < (n : Int) := by omega
 obtain ⟨CS, hCS⟩ : ∃ CS, CS = Builtin.zeroCells (Value.agg #[.int .i64 0, .string ⟨#[]⟩, .int .i64 0, .int .i64 0]).cells n ++ Builtin.zeroCells (Value.agg #[.int .i64 0, .string ⟨#[]⟩, .int .i64 0, .int .i64 0]).cells (G - n) := ⟨_, rfl⟩
 rw [← hCS] at hr
 have HC : Hid (CS.size = G * 4) := Lib.hid (by rw [hCS, Array.size_append, size_zeroCells, size_zeroCells, ← Nat.add_mul, show n + (G - n) = G by omega]; rfl)
 clear hG hCS hm
 go_enter Tryz.func249, Tryz.ntmps249
 go_wp2_with (at_builtin; refine Lib.wpList_append_run _ rfl _ _ _ _ rfl _ _ rfl rfl _ _ hr ?_)
 all_goals
  go_ret
  exact ⟨_, rfl, ⟨rfl, .inr ⟨W.heap.size, G, CS, rfl, Nat.le_refl _, heap_alloc_new W.drew _, Nat.zero_le _, HM.out, HC.out, rfl⟩⟩, (Below.refl _ _).drew.alloc (Nat.le_refl _) _⟩
theorem SL.flat {α : Type} {enc : α → List Value} {k : Nat} {w : World} {a : Option Addr} {n c : Nat} {l : List α} (h : SL enc k w a n c l) (hk : ∀ x, (enc x).length = k) (k0 : 0 < k) (b : Addr) (hb : a = some b) : ∀ j v, (l.flatMap enc)[j]? = some v → w.cell? (b.add j) = some v := by
 intro j v hj
 have hjl := (List.getElem?_eq_some_iff.1 hj).1
 rw [flat_len hk, h.len] at hjl
 have hn : 0 < n := by
  rcases Nat.eq_zero_or_pos n with h0 | h0
  · subst h0; simp at hjl
  · exact h0
 obtain ⟨b', o', e, hlt⟩ := h.at' hn
 have hi : j / k < n := Nat.div_lt_of_lt_mul (by rw [Nat.mul_comm]; exact hjl)
 obtain ⟨x, hx⟩ := h.get hi
 have h1 := flat_get hk l (j / k) x hx (j % k) (Nat.mod_lt _ k0)
 have e1 : j / k * k + j % k = j := by rw [Nat.mul_comm]; exact Nat.div_add_mod j k
 rw [e1, hj] at h1
 have h2 := h.cell b' o' e (j / k) x hx (j % k) v h1.symm
 rw [hb] at e; injection e with e; subst e
 rw [show (Addr.add ⟨b', o', none⟩ j) = ⟨b', o' + j, none⟩ by simp [Addr.add]]
 rw [Nat.add_assoc, e1] at h2
 exact h2
structure LLs (w : World) (b o : Nat) (ls : List (List Tk)) : Prop where
 lt : b < w.heap.size
 get : ∀ j l, ls[j]? = some l → ∃ a n c, w.cell? ⟨b, o + j, none⟩ = some (.slice a n c) ∧ SL encT 4 w a n c l
theorem LLs.below {w w' : World} {b o : Nat} {ls : List (List Tk)} (h : LLs w b o ls) (hb : Below w.heap.size w w') : LLs w' b o ls where
 lt := Nat.lt_of_lt_of_le h.lt hb.size
 get := fun j l hl => by
  obtain ⟨a, n, c, h1, h2⟩ := h.get j l hl
  exact ⟨a, n, c, by rw [hb.cell (p := ⟨b, o + j, none⟩) h.lt]; exact h1, h2.below hb⟩
theorem flat_to {α : Type} {ls : List (List α)} {k : Nat} {l : List α} (h : ls[k]? = some l) : (ls.take (k + 1)).flatten = (ls.take k).flatten ++ l := by rw [takeF h]; simp
theorem flat_le {α : Type} (ls : List (List α)) (k : Nat) : (ls.take k).flatten.length ≤ ls.flatten.length := by
 conv => rhs; rw [← List.take_append_drop k ls]
 simp only [List.flatten_append, List.length_append]; omega
set_option maxHeartbeats 2000000 in
set_option maxRecDepth 100000 in
theorem concat_any (b o n c : Nat) (ls : List (List Tk)) (W : World) (h0 : LLs W b o ls) (hn : ls.length = n) (hb : ls.flatten.length ≤ 100000) (hm : n ≤ 1000) :
 Calls Tryz.prog 152 #[.slice (some ⟨b, o, none⟩) n c] W fun e w' => RetSL encT 4 W 251 ls.flatten e w' := by
 have HN := Lib.hid hn
 have HB := Lib.hid hb
 have hbl := h0.lt
 clear hn hb
 go_enter Tryz.func152, Tryz.ntmps152
 go_wp2_with fail
 go_loop [3, 11] (fun z i => ∃ k : Nat, i = .int .i64 k ∧ k ≤ n ∧ z = .int .i64 ((ls.take k).flatten.length : Nat)) (fun _ i => n - (intOf i).toNat)
 case atStart => exact ⟨0, rfl, by omega, rfl⟩
 case round =>
  obtain ⟨k, rfl, hk, rfl⟩ := hrel
  by_cases hlt : k < n
  · obtain ⟨l, hl⟩ : ∃ l, ls[k]? = some l := ⟨_, List.getElem?_eq_getElem (by rw [HN.out]; exact hlt)⟩
    obtain ⟨a, m, c', e0, hS⟩ := h0.get k l hl
    have HS : Hid ((ls.take (k + 1)).flatten.length = (ls.take k).flatten.length + m) := Lib.hid (by rw [flat_to hl, List.length_append, hS.len])
    have hle := flat_le ls (k + 1)
    rw [HS.out] at hle
    have hB := HB.out
    obtain ⟨T, hT⟩ : ∃ T, (ls.take k).flatten.length = T := ⟨_, rfl⟩
    rw [hT] at HS hle ⊢
    have s0 : (0 : Int) ≤ (k : Int) := by omega
    have s1 : (k : Int) < (n : Int) := by omega
    have s2 : ¬ (T : Int) + (m : Int) < 0 := by omega
    have s3 : T + m ≤ 100000 := by omega
    clear hT hl hle hB
    go_wp2_with fail
    go_round
    case rel => exact ⟨k + 1, by go_num, by omega, by rw [HS.out]; rfl⟩
    case measure => simp [intOf]; omega
  · obtain rfl : n = k := by omega
    have HT : Hid ((ls.take n).flatten.length ≤ 100000) := Lib.hid (Nat.le_trans (flat_le ls n) HB.out)
    obtain ⟨T, hT⟩ : ∃ T, (ls.take n).flatten.length = T := ⟨_, rfl⟩
    rw [hT] at HT ⊢
    clear hT hk hlt
    go_wp2_with fail
    refine (grow_any T (by have := HT.out; omega) W).mono ?_
    rintro e w1 ⟨v, rfl, hO, hB1⟩
    go_wp2_with fail
    go_loopw [6, 27] (fun z i wr => ∃ k : Nat, i = .int .i64 k ∧ k ≤ n ∧ OwnSL encT 4 wr W.heap.size 251 z (ls.take k).flatten ∧ Below W.heap.size W wr) (fun _ i _ => n - (intOf i).toNat)
    case atStart => exact ⟨0, rfl, by omega, hO, hB1⟩
    case round =>
     clear hO hB1
     obtain ⟨k, rfl, hk, hO, hB1⟩ := hrel
     by_cases hlt : k < n
     · obtain ⟨l, hl⟩ : ∃ l, ls[k]? = some l := ⟨_, List.getElem?_eq_getElem (by rw [HN.out]; exact hlt)⟩
       obtain ⟨a, m, c', e0, hS⟩ := (h0.below hB1).get k l hl
       have hle := flat_le ls (k + 1)
       rw [flat_to hl, List.length_append, hS.len] at hle
       have hB := HB.out
       have HS : Hid ((ls.take (k + 1)).flatten = (ls.take k).flatten ++ l) := Lib.hid (flat_to hl)
       have hlt2 := hO.lt
       have hsz := hB1.size
       obtain ⟨av, cv, rfl, hSv⟩ := hO.sl encT_len
       obtain ⟨L, hL⟩ : ∃ L, (ls.take k).flatten = L := ⟨_, rfl⟩
       rw [hL] at HS hle hO hSv hlt2 ⊢
       unfold OwnSL at hO
       obtain ⟨N, hN⟩ : ∃ N, L.length = N := ⟨_, rfl⟩
       rw [hN] at hO hle hlt2 ⊢
       have HNN := Lib.hid hN
       have s0 : (0 : Int) ≤ (k : Int) := by omega
       have s1 : (k : Int) < (n : Int) := by omega
       have hbw : b < wr.heap.size := by omega
       have HSS := Lib.hid hS
       obtain ⟨i4, hi4, hz40, hz41, hz42⟩ := info_parts info_tok
       clear hL hN hl hS hSv
       go_wp2_with (at_builtin; refine wpList_append_any rfl _ _ 197 rfl W.heap.size 251 i4 _ 4 40 Tryz.underlying197 hi4 hz40 hz41 hz42 rfl (by decide) _ _ _ hO rfl a m c' (l.flatMap encT) rfl (fun h => by
        rcases Nat.eq_zero_or_pos m with h1 | h1
        · exact h1
        · obtain ⟨_, _, h2, _⟩ := HSS.out.at' h1; rw [h] at h2; cases h2) (by rw [flat_len encT_len, HSS.out.len]) (HSS.out.flat encT_len (by decide)) (toks_oc l) (by unfold maxLen; omega) (by omega) (by omega) ?_; intro v' w2 hO2 hg hor)
       go_roundw
       case rel =>
        refine ⟨k + 1, by go_num, by omega, ?_, hB1.grown hg (by omega) (fun q e => (hlt2 q e).1)⟩
        rw [HS.out]
        unfold OwnSL
        rw [List.length_append, HNN.out, HSS.out.len, List.flatMap_append]
        exact hO2
       case measure => simp [intOf]; omega
     · obtain rfl : n = k := by omega
       rw [List.take_of_length_le (by rw [HN.out]; exact Nat.le_refl _)] at hO
       have HO := Lib.hid hO
       clear hO
       go_wp2_with fail
       go_ret
       exact ⟨_, rfl, HO.out, hB1⟩
end Go.Proofs.YtehoidohallfcaaGreatDoor
/- Contracts of the closures of points.parts that make the tokens of an expression. -/
namespace Go.Proofs.YtehoidohallfcaaGreatDoor
open Go.RowKit
inductive AllTs (w : World) : List Value → List (List Tk) → Prop
 | nil : AllTs w [] []
 | cons {a : Option Addr} {n c : Nat} {l : List Tk} {vs : List Value} {ls : List (List Tk)} : SL encT 4 w a n c l → AllTs w vs ls → AllTs w (.slice a n c :: vs) (l :: ls)
theorem AllTs.get {w : World} : ∀ {vs : List Value} {ls : List (List Tk)}, AllTs w vs ls → ∀ {j : Nat} {l : List Tk}, ls[j]? = some l → ∃ a n c, vs[j]? = some (.slice a n c) ∧ SL encT 4 w a n c l
 | _, _, .nil, j, l, h => by simp at h
 | _, _, .cons (a := a) (n := n) (c := c) h0 _, 0, l, h => by
  simp only [List.getElem?_cons_zero, Option.some.injEq] at h
  subst h
  exact ⟨a, n, c, rfl, h0⟩
 | _, _, .cons _ hs, j + 1, l, h => by
  simp only [List.getElem?_cons_succ] at h
  exact hs.get h
theorem lls_new {w : World} {vs : List Value} {ls : List (List Tk)} (t : TypeId) (h : AllTs w vs ls) : LLs (w.alloc (.cells vs.toArray t)) w.heap.size 0 ls where
 lt := by simp
 get := fun j l hl => by
  obtain ⟨a, n, c, h1, h2⟩ := h.get hl
  refine ⟨a, n, c, ?_, h2.below (al0 _ _ _)⟩
  rw [Nat.zero_add, (Box.new w vs.toArray t).cell j, List.getElem?_toArray, h1]
def NewA (W : World) (a : Option Addr) (n : Nat) : Prop := 0 < n → ∃ b o, a = some ⟨b, o, none⟩ ∧ W.heap.size ≤ b
theorem NewA.on {W w : World} {a : Option Addr} {n : Nat} (h : NewA w a n) (hb : Below W.heap.size W w) : NewA W a n := fun hn => let ⟨b, o, e, hl⟩ := h hn; ⟨b, o, e, Nat.le_trans hb.size hl⟩
def RetT (W : World) (m : Nat) (e : Ending) (w' : World) : Prop := ∃ (a : Option Addr) (n c : Nat) (ts : List Tk), e = .returned (.slice a n c) ∧ SL encT 4 w' a n c ts ∧ (∀ t ∈ ts, OkT t) ∧ n ≤ m ∧ NewA W a n ∧ Below W.heap.size W w'
theorem ret_t {W w' : World} {l : List Tk} {e : Ending} {m : Nat} (h : RetSL encT 4 W 251 l e w') (hok : ∀ t ∈ l, OkT t) (hm : l.length ≤ m) : RetT W m e w' := by
 obtain ⟨v, rfl, hO, hB⟩ := h
 have hlt := hO.lt
 obtain ⟨a, c, rfl, hS⟩ := hO.sl encT_len
 refine ⟨a, _, c, l, rfl, hS, hok, hm, fun hn => ?_, hB⟩
 obtain ⟨b, o, rfl, _⟩ := hS.at' hn
 exact ⟨b, o, rfl, (hlt b rfl).1⟩
theorem name_sl (s : ByteArray) (W : World) : Calls Tryz.prog 156 #[.string s] W fun e w' => ∃ B, e = .returned (.slice (some ⟨B, 0, none⟩) 1 1) ∧ SL encT 4 w' (some ⟨B, 0, none⟩) 1 1 [⟨1, s, 0, 0⟩] ∧ Below W.heap.size W w' := by
 refine (name1_any s W).mono ?_
 rintro e w' ⟨rfl, rfl⟩
 exact ⟨_, rfl, sl_one W ⟨1, s, 0, 0⟩ _, al0 _ _ _⟩
theorem sign_sl (s : ByteArray) (W : World) : Calls Tryz.prog 153 #[.string s] W fun e w' => ∃ B, e = .returned (.slice (some ⟨B, 0, none⟩) 1 1) ∧ SL encT 4 w' (some ⟨B, 0, none⟩) 1 1 [⟨3, s, 0, 0⟩] ∧ Below W.heap.size W w' := by
 refine (sign1_any s W).mono ?_
 rintro e w' ⟨rfl, rfl⟩
 exact ⟨_, rfl, sl_one W ⟨3, s, 0, 0⟩ _, al0 _ _ _⟩
def sgT (s : ByteArray) : Tk := ⟨3, s, 0, 0⟩
def nmT (s : ByteArray) : Tk := ⟨1, s, 0, 0⟩
theorem sg_ok {x : UInt8} (h : classI x.toNat = 4) : OkT (sgT ⟨#[x]⟩) := .sign h
theorem nm_ok {s : ByteArray} (h : nameB s = true) : OkT (nmT s) := .name h
theorem ok_app {x y : List Tk} (hx : ∀ t ∈ x, OkT t) (hy : ∀ t ∈ y, OkT t) : ∀ t ∈ x ++ y, OkT t := fun t ht => by
 rcases List.mem_append.1 ht with h | h
 · exact hx t h
 · exact hy t h
theorem ok_one {x : Tk} (hx : OkT x) : ∀ t ∈ [x], OkT t := fun t ht => by rw [List.mem_singleton.1 ht]; exact hx
theorem sg40 : OkT (sgT ⟨#[40]⟩) := sg_ok (by decide +kernel)
theorem sg41 : OkT (sgT ⟨#[41]⟩) := sg_ok (by decide +kernel)
theorem sg44 : OkT (sgT ⟨#[44]⟩) := sg_ok (by decide +kernel)
theorem sg60 : OkT (sgT ⟨#[60]⟩) := sg_ok (by decide +kernel)
set_option maxHeartbeats 2000000 in
set_option maxRecDepth 100000 in
theorem less_any (a : Option Addr) (n c : Nat) (xs : List Tk) (b : Option Addr) (m d : Nat) (ys : List Tk) (W : World) (hx : SL encT 4 W a n c xs) (hy : SL encT 4 W b m d ys) (ox : ∀ t ∈ xs, OkT t) (oy : ∀ t ∈ ys, OkT t) (hnm : n + m ≤ 90000) :
 Calls Tryz.prog 157 #[.slice a n c, .slice b m d] W fun e w' => RetT W (n + m + 5) e w' := by
 have HX := Lib.hid hx
 have HY := Lib.hid hy
 have HOK : Hid (∀ t ∈ xs ++ ([sgT ⟨#[60]⟩] ++ ys), OkT t) := Lib.hid (ok_app ox (ok_app (ok_one sg60) oy))
 clear hx hy ox oy
 go_enter Tryz.func157, Tryz.ntmps157
 go_wp2_with fail
 (refine (sign_sl _ _).mono ?_; rintro e w1 ⟨B1, rfl, hB1, hbB1⟩)
 have hl := lls_new (w := w1) (vs := [.slice a n c, .slice (some ⟨B1, 0, none⟩) 1 1, .slice b m d]) 197 (.cons (HX.out.below hbB1) (.cons hB1 (.cons (HY.out.below hbB1) .nil)))
 have hln : xs.length = n ∧ ys.length = m := ⟨HX.out.len, HY.out.len⟩
 have hc := concat_any w1.heap.size 0 3 3 _ _ hl rfl (by simp [hln.1, hln.2]; omega) (by omega)
 have HC := Lib.hid hc
 clear hl hc
 go_wp2_with fail
 refine HC.out.mono ?_
 rintro e w2 ⟨v, rfl, hO, hb2⟩
 have HR := ret_t (W := w1.alloc _) ⟨v, rfl, hO, hb2⟩ (by simpa [sgT] using HOK.out) (m := n + m + 5) (by simp [hln.1, hln.2]; omega)
 obtain ⟨a', n', c', ts, he, h1, h2, h3, h5, h4⟩ := HR
 injection he with he
 subst he
 have hbb := hbB1.on (al0 w1 #[.slice a n c, .slice (some ⟨B1, 0, none⟩) 1 1, .slice b m d] 197)
 have H5 := Lib.hid (h5.on hbb)
 clear h5
 go_wp2_with fail
 go_ret
 exact ⟨_, _, _, ts, rfl, h1, h2, h3, H5.out, hbb.on h4⟩
theorem keepI {W w w' : World} {p : Nat} {v : Value} (h : w.cell? ⟨p, 0, none⟩ = some v ∧ Below W.heap.size W w) (hb : Below w.heap.size w w') : w'.cell? ⟨p, 0, none⟩ = some v ∧ Below W.heap.size W w' :=
 ⟨(hb.cell (p := ⟨p, 0, none⟩) (World.block_lt_of_cell? w _ h.1)).trans h.1, h.2.on hb⟩
theorem keepJ {W w' : World} {p : Nat} {v : Value} (h : W.cell? ⟨p, 0, none⟩ = some v) (hb : Below W.heap.size W w') : w'.cell? ⟨p, 0, none⟩ = some v ∧ Below W.heap.size W w' :=
 ⟨(hb.cell (p := ⟨p, 0, none⟩) (World.block_lt_of_cell? W _ h)).trans h, hb⟩
theorem concat_t (vs : List Value) (ls : List (List Tk)) (k : Nat) (hk : ls.length = k) (hk1 : k ≤ 1000) (M : Nat) (W w : World) (hB : Below W.heap.size W w) (ha : AllTs w vs ls) (hok : ∀ t ∈ ls.flatten, OkT t) (hm : ls.flatten.length ≤ M) (hM : M ≤ 100000) :
 Calls Tryz.prog 152 #[.slice (some ⟨w.heap.size, 0, none⟩) k k] (w.alloc (.cells vs.toArray 197)) fun e w' => RetT W M e w' := by
 refine (concat_any w.heap.size 0 k k ls _ (lls_new _ ha) hk (by omega) hk1).mono ?_
 intro e w' h
 obtain ⟨a, n, c, ts, e1, h1, h2, h3, h5, h4⟩ := ret_t h hok hm
 have hbb := hB.on (al0 w vs.toArray 197)
 exact ⟨a, n, c, ts, e1, h1, h2, h3, h5.on hbb, hbb.on h4⟩
set_option maxHeartbeats 4000000 in
set_option maxRecDepth 100000 in
theorem infix_any (s : ByteArray) (p : Nat) (a : Option Addr) (n c : Nat) (xs : List Tk) (b : Option Addr) (m d : Nat) (ys : List Tk) (W : World) (hp : W.cell? ⟨p, 0, none⟩ = some (.string s)) (hs : OkT (sgT s)) (hx : SL encT 4 W a n c xs) (hy : SL encT 4 W b m d ys) (ox : ∀ t ∈ xs, OkT t) (oy : ∀ t ∈ ys, OkT t) (hnm : n + m ≤ 90000) :
 Calls Tryz.prog 151 #[.slice a n c, .slice b m d, .pointer (some ⟨p, 0, none⟩)] W fun e w' => RetT W (n + m + 5) e w' := by
 have hln : xs.length = n ∧ ys.length = m := ⟨hx.len, hy.len⟩
 have HC : Hid (∀ (w1 w2 w3 : World) (B1 B2 B3 : Nat), Below W.heap.size W w1 → SL encT 4 w1 (some ⟨B1, 0, none⟩) 1 1 [sgT ⟨#[40]⟩] → Below w1.heap.size w1 w2 → SL encT 4 w2 (some ⟨B2, 0, none⟩) 1 1 [sgT s] → Below w2.heap.size w2 w3 → SL encT 4 w3 (some ⟨B3, 0, none⟩) 1 1 [sgT ⟨#[41]⟩] →
  Calls Tryz.prog 152 #[.slice (some ⟨w3.heap.size, 0, none⟩) 5 5] (w3.alloc (.cells #[.slice (some ⟨B1, 0, none⟩) 1 1, .slice a n c, .slice (some ⟨B2, 0, none⟩) 1 1, .slice b m d, .slice (some ⟨B3, 0, none⟩) 1 1] 197)) fun e w' => RetT W (n + m + 5) e w') := Lib.hid fun w1 w2 w3 B1 B2 B3 hb1 h1 hb2 h2 hb3 h3 =>
  concat_t [.slice (some ⟨B1, 0, none⟩) 1 1, .slice a n c, .slice (some ⟨B2, 0, none⟩) 1 1, .slice b m d, .slice (some ⟨B3, 0, none⟩) 1 1] [[sgT ⟨#[40]⟩], xs, [sgT s], ys, [sgT ⟨#[41]⟩]] 5 rfl (by omega) (n + m + 5) W w3 ((hb1.on hb2).on hb3)
   (.cons ((h1.below hb2).below hb3) (.cons (((hx.below hb1).below hb2).below hb3) (.cons (h2.below hb3) (.cons (((hy.below hb1).below hb2).below hb3) (.cons h3 .nil)))))
   (by simpa using ok_app (ok_one sg40) (ok_app ox (ok_app (ok_one hs) (ok_app oy (ok_one sg41)))))
   (by simp [hln.1, hln.2]; omega) (by omega)
 clear hx hy ox oy hln hs
 go_enter Tryz.func151, Tryz.ntmps151
 go_wp2_with fail
 go_region_held3 (fun w' => w'.cell? ⟨p, 0, none⟩ = some (.string s) ∧ Below W.heap.size W w')
  (first | exact ⟨hp, (Below.refl _ _).drew⟩ | exact keepI (by assumption) (by assumption) | exact keepI (by assumption) (al0 _ _ _) | exact keepJ hp (by assumption))
  (first | (go_at_call 153; refine (sign_sl ⟨#[40]⟩ _).mono ?_; rintro e w1 ⟨B1, rfl, h1, hb1⟩) | (go_at_call 153; refine (sign_sl ⟨#[41]⟩ _).mono ?_; rintro e w3 ⟨B3, rfl, h3, hb3⟩) | (go_at_call 153; refine (sign_sl s _).mono ?_; rintro e w2 ⟨B2, rfl, h2, hb2⟩) | (go_at_call 152; refine (HC.out w1 w2 w3 B1 B2 B3 ((Below.refl _ _).drew.on hb1) h1 hb2 h2 hb3 h3).mono ?_; rintro e w4 ⟨a', n', c', ts, rfl, h4, h5, h6, h8, h7⟩))
 have H8 := Lib.hid h8
 clear h8
 go_wp2_with fail
 go_ret
 exact ⟨_, _, _, ts, rfl, h4, h5, h6, H8.out, h7⟩
set_option maxHeartbeats 4000000 in
set_option maxRecDepth 100000 in
theorem call2_any (s : ByteArray) (p : Nat) (a : Option Addr) (n c : Nat) (xs : List Tk) (b : Option Addr) (m d : Nat) (ys : List Tk) (W : World) (hp : W.cell? ⟨p, 0, none⟩ = some (.string s)) (hs : OkT (nmT s)) (hx : SL encT 4 W a n c xs) (hy : SL encT 4 W b m d ys) (ox : ∀ t ∈ xs, OkT t) (oy : ∀ t ∈ ys, OkT t) (hnm : n + m ≤ 90000) :
 Calls Tryz.prog 155 #[.slice a n c, .slice b m d, .pointer (some ⟨p, 0, none⟩)] W fun e w' => RetT W (n + m + 5) e w' := by
 have hln : xs.length = n ∧ ys.length = m := ⟨hx.len, hy.len⟩
 have HC : Hid (∀ (w0 w1 w2 w3 : World) (B0 B1 B2 B3 : Nat), Below W.heap.size W w0 → SL encT 4 w0 (some ⟨B0, 0, none⟩) 1 1 [nmT s] → Below w0.heap.size w0 w1 → SL encT 4 w1 (some ⟨B1, 0, none⟩) 1 1 [sgT ⟨#[40]⟩] → Below w1.heap.size w1 w2 → SL encT 4 w2 (some ⟨B2, 0, none⟩) 1 1 [sgT ⟨#[44]⟩] → Below w2.heap.size w2 w3 → SL encT 4 w3 (some ⟨B3, 0, none⟩) 1 1 [sgT ⟨#[41]⟩] →
  Calls Tryz.prog 152 #[.slice (some ⟨w3.heap.size, 0, none⟩) 6 6] (w3.alloc (.cells #[.slice (some ⟨B0, 0, none⟩) 1 1, .slice (some ⟨B1, 0, none⟩) 1 1, .slice a n c, .slice (some ⟨B2, 0, none⟩) 1 1, .slice b m d, .slice (some ⟨B3, 0, none⟩) 1 1] 197)) fun e w' => RetT W (n + m + 5) e w') := Lib.hid fun w0 w1 w2 w3 B0 B1 B2 B3 hb0 h0 hb1 h1 hb2 h2 hb3 h3 =>
  concat_t [.slice (some ⟨B0, 0, none⟩) 1 1, .slice (some ⟨B1, 0, none⟩) 1 1, .slice a n c, .slice (some ⟨B2, 0, none⟩) 1 1, .slice b m d, .slice (some ⟨B3, 0, none⟩) 1 1] [[nmT s], [sgT ⟨#[40]⟩], xs, [sgT ⟨#[44]⟩], ys, [sgT ⟨#[41]⟩]] 6 rfl (by omega) (n + m + 5) W w3 (((hb0.on hb1).on hb2).on hb3)
   (.cons (((h0.below hb1).below hb2).below hb3) (.cons ((h1.below hb2).below hb3) (.cons ((((hx.below hb0).below hb1).below hb2).below hb3) (.cons (h2.below hb3) (.cons ((((hy.below hb0).below hb1).below hb2).below hb3) (.cons h3 .nil))))))
   (by simpa using ok_app (ok_one hs) (ok_app (ok_one sg40) (ok_app ox (ok_app (ok_one sg44) (ok_app oy (ok_one sg41))))))
   (by simp [hln.1, hln.2]; omega) (by omega)
 clear hx hy ox oy hln hs
 go_enter Tryz.func155, Tryz.ntmps155
 go_wp2_with fail
 refine (name_sl s _).mono ?_
 rintro e w0 ⟨B0, rfl, h0, hb0⟩
 go_wp2_with fail
 refine (sign_sl _ _).mono ?_
 rintro e w1 ⟨B1, rfl, h1, hb1⟩
 go_wp2_with fail
 refine (sign_sl _ _).mono ?_
 rintro e w2 ⟨B2, rfl, h2, hb2⟩
 go_wp2_with fail
 refine (sign_sl _ _).mono ?_
 rintro e w3 ⟨B3, rfl, h3, hb3⟩
 go_wp2_with fail
 refine (HC.out w0 w1 w2 w3 B0 B1 B2 B3 hb0 h0 hb1 h1 hb2 h2 hb3 h3).mono ?_
 rintro e w4 ⟨a', n', c', ts, rfl, h4, h5, h6, h8, h7⟩
 have H8 := Lib.hid h8
 clear h8
 go_wp2_with fail
 go_ret
 exact ⟨_, _, _, ts, rfl, h4, h5, h6, H8.out, h7⟩
end Go.Proofs.YtehoidohallfcaaGreatDoor
/- Contract of points.parts. -/
namespace Go.Proofs.YtehoidohallfcaaGreatDoor
open Go.RowKit
structure Pt where
 a : Option Addr
 n : Nat
 c : Nat
 ts : List Tk
 cmp : Bool
def encP (p : Pt) : List Value := [.slice p.a p.n p.c, .bool p.cmp]
theorem encP_len (p : Pt) : (encP p).length = 2 := rfl
theorem SL.p2 {w : World} {b o n c i : Nat} {l : List Pt} (h : SL encP 2 w (some ⟨b, o, none⟩) n c l) {x : Pt} (hx : l[i]? = some x) : w.cell? ⟨b, o + i * 2, none⟩ = some (.slice x.a x.n x.c) ∧ w.cell? ⟨b, o + i * 2 + 1, none⟩ = some (.bool x.cmp) :=
 ⟨h.cell b o rfl i x hx 0 _ rfl, h.cell b o rfl i x hx 1 _ rfl⟩
def pt_Pred (w : World) (f : FuncId) (caps : Array Value) (P : Pt → Bool) : Prop := ∀ (x : Pt) (W : World), Below w.heap.size w W → Calls Tryz.prog f (#[.agg #[.slice x.a x.n x.c, .bool x.cmp]] ++ caps) W fun e w' => RetB W (.bool (P x)) e w'
set_option maxRecDepth 10000 in
set_option maxHeartbeats 1000000 in
theorem pt_index (f : FuncId) (caps : Array Value) (a0 : Option Addr) (n0 c0 : Nat) (l : List Pt) (P : Pt → Bool) (w : World) (hen : Enters Tryz.prog f) (h0 : SL encP 2 w a0 n0 c0 l) (hP : pt_Pred w f caps P) :
 Calls Tryz.prog 250 #[.slice a0 n0 c0, .func (.func f) #[] caps] w fun e w' => ∃ z : Int, e = .returned (.int .i64 z) ∧ idxF l P z ∧ Below w.heap.size w w' := by
 have hm0 := h0.mx
 have hc0 := h0.cap
 have hl0 := Lib.hid h0.len
 unfold maxLen at hm0
 have HP := Lib.hid hP
 clear hP
 unfold Enters at hen
 go_enter Tryz.func250, Tryz.ntmps250
 go_wp2_with fail
 go_loopw [8] (fun i wr => ∃ k : Nat, k ≤ n0 ∧ i = .int .i64 k ∧ Hid (noneUpto l P k) ∧ Below w.heap.size w wr) (fun i _ => n0 - (intOf i).toNat)
 case atStart => exact ⟨0, by omega, rfl, Lib.hid (by intro x hx; simp at hx), Below.refl _ _⟩
 case round =>
  obtain ⟨k, hk, rfl, HM, hB⟩ := hrel
  by_cases hlt : k < n0
  · obtain ⟨b0, o0, rfl, hb0⟩ := h0.at' (by omega)
    obtain ⟨x, hx⟩ : ∃ x, l[k]? = some x := ⟨_, List.getElem?_eq_getElem (by rw [hl0.out]; exact hlt)⟩
    obtain ⟨e0, e1⟩ := (h0.below hB).p2 hx
    have HX := Lib.hid hx
    have s0 : (0 : Int) ≤ (k : Int) := by omega
    have s1 : (k : Int) < (n0 : Int) := by omega
    clear hx
    cases hd : P x
    · have HD := Lib.hid hd
      have hc := HP.out x wr hB
      rw [hd] at hc
      have HC := Lib.hid hc
      clear hc hd
      go_wp2_with (refine HC.out.mono ?_; rintro e w' ⟨rfl, hB2⟩)
      go_roundw
      case rel => exact ⟨k + 1, by omega, by go_num, Lib.hid (none_step HX.out HM.out HD.out), hB.on hB2⟩
      case measure => simp [intOf]; omega
    · have HD := Lib.hid hd
      have hc := HP.out x wr hB
      rw [hd] at hc
      have HC := Lib.hid hc
      clear hc hd
      go_wp2_with (refine HC.out.mono ?_; rintro e w' ⟨rfl, hB2⟩)
      go_ret
      exact ⟨(k : Int), rfl, .inr ⟨k, x, rfl, HX.out, HD.out, HM.out⟩, hB.on hB2⟩
  · obtain rfl : n0 = k := by omega
    go_wp2_with fail
    go_ret
    refine ⟨-1, rfl, .inl ⟨rfl, fun x hx => HM.out x ?_⟩, hB⟩
    rw [List.take_of_length_le (by rw [hl0.out]; omega)]; exact hx
set_option maxRecDepth 10000 in
set_option maxHeartbeats 1000000 in
theorem pt_contains (f : FuncId) (caps : Array Value) (a0 : Option Addr) (n0 c0 : Nat) (l : List Pt) (P : Pt → Bool) (w : World) (hen : Enters Tryz.prog f) (h0 : SL encP 2 w a0 n0 c0 l) (hP : pt_Pred w f caps P) :
 Calls Tryz.prog 159 #[.slice a0 n0 c0, .func (.func f) #[] caps] w fun e w' => RetB w (.bool (l.any P)) e w' := by
 have HI := Lib.hid (pt_index f caps a0 n0 c0 l P w hen h0 hP)
 clear hP hen
 have HK := Lib.hid (idx_any l P)
 go_enter Tryz.func159, Tryz.ntmps159
 go_wp2_with (go_at_call 250; refine HI.out.mono ?_; rintro e w' ⟨z, rfl, hz, hB⟩; have HZ2 := Lib.hid (HK.out z hz); clear hz)
 all_goals
  go_ret
  exact ⟨ret_bool HZ2.out, hB⟩
theorem cmp_any (x : Pt) (W : World) : Calls Tryz.prog 160 #[.agg #[.slice x.a x.n x.c, .bool x.cmp]] W fun e w' => RetB W (.bool x.cmp) e w' := by
 go_enter Tryz.func160, Tryz.ntmps160
 go_wp2_with fail
 go_ret
 exact ⟨rfl, al0 _ _ _⟩
def plB (st : List Bool) : Bool := decide (2 ≤ st.length) && !((st.drop (st.length - 2)).any id)
theorem plB_no {st : List Bool} {n : Nat} (hn : st.length = n) (h : n < 2) : plB st = false := by
 unfold plB; rw [decide_eq_false (by omega)]; rfl
theorem plB_yes {ps : List Pt} {n : Nat} (hn : ps.length = n + 2) : plB (ps.map (·.cmp)) = !(((ps.drop n).take 2).any (·.cmp)) := by
 unfold plB
 rw [List.length_map, hn, decide_eq_true (by omega), Bool.true_and, show n + 2 - 2 = n by omega, ← List.map_drop, List.any_map]
 rw [List.take_of_length_le (by rw [List.length_drop]; omega)]
 rfl
set_option maxHeartbeats 1000000 in
theorem plain_any (B : Nat) (a : Option Addr) (n c : Nat) (ps : List Pt) (W : World) (hc : W.cell? ⟨B, 0, none⟩ = some (.slice a n c)) (h : SL encP 2 W a n c ps) :
 Calls Tryz.prog 158 #[.int .i64 2, .pointer (some ⟨B, 0, none⟩)] W fun e w' => RetB W (.bool (plB (ps.map (·.cmp)))) e w' := by
 by_cases h2 : n < 2
 · have HE := Lib.hid (plB_no (st := ps.map (·.cmp)) (by rw [List.length_map, h.len]) h2)
   have n0 : decide ((2 : Int) ≤ (n : Int)) = false := by simp; omega
   go_enter Tryz.func158, Tryz.ntmps158
   go_wp2_with fail
   go_ret
   exact ⟨ret_bool HE.out.symm, Below.refl _ _⟩
 · obtain ⟨m, rfl⟩ : ∃ m, n = m + 2 := ⟨n - 2, by omega⟩
   have HE := Lib.hid (plB_yes h.len)
   obtain ⟨b, o, rfl, hb⟩ := h.at' (by omega)
   have hcap := h.cap
   have hmx := h.mx
   unfold maxLen at hmx
   have hp := h.part (i := m) (m := 2) (d := c - m) (by omega) (by omega) (by omega)
   have HC := Lib.hid (pt_contains 160 #[] _ _ _ _ (·.cmp) W (enters_of Tryz.func160 (by kernel_rfl) rfl) hp fun x W' _ => cmp_any x W')
   clear hp
   have n0 : decide ((2 : Int) ≤ ((m + 2 : Nat) : Int)) = true := by simp; omega
   go_enter Tryz.func158, Tryz.ntmps158
   go_wp2_with fail
   refine HC.out.mono ?_
   rintro e w1 ⟨rfl, hB⟩
   go_wp2_with fail
   go_ret
   exact ⟨ret_bool HE.out.symm, hB⟩
theorem infix_new (s : ByteArray) (W : World) : Calls Tryz.prog 150 #[.string s] W fun e w' => e = .returned (.func (.func 151) #[] #[.pointer (some ⟨W.heap.size, 0, none⟩)]) ∧ w' = W.alloc (.cells #[.string s] 9) := by
 go_enter Tryz.func150, Tryz.ntmps150
 go_wp2_with fail
 go_ret
 exact ⟨rfl, rfl⟩
theorem call2_new (s : ByteArray) (W : World) : Calls Tryz.prog 154 #[.string s] W fun e w' => e = .returned (.func (.func 155) #[] #[.pointer (some ⟨W.heap.size, 0, none⟩)]) ∧ w' = W.alloc (.cells #[.string s] 9) := by
 go_enter Tryz.func154, Tryz.ntmps154
 go_wp2_with fail
 go_ret
 exact ⟨rfl, rfl⟩
def tabB (B : Nat) : Array Value := #[.nilFunc, .nilFunc, .nilFunc, .func (.func 151) #[] #[.pointer (some ⟨B + 1, 0, none⟩)], .func (.func 151) #[] #[.pointer (some ⟨B + 2, 0, none⟩)], .func (.func 151) #[] #[.pointer (some ⟨B + 3, 0, none⟩)], .func (.func 151) #[] #[.pointer (some ⟨B + 4, 0, none⟩)], .func (.func 155) #[] #[.pointer (some ⟨B + 5, 0, none⟩)], .func (.func 155) #[] #[.pointer (some ⟨B + 6, 0, none⟩)], .func (.func 157) #[] #[]]
structure Six (w : World) (B : Nat) : Prop where
 b1 : Box w (B + 1) #[.string ⟨#[43]⟩] 9
 b2 : Box w (B + 2) #[.string ⟨#[45]⟩] 9
 b3 : Box w (B + 3) #[.string ⟨#[42]⟩] 9
 b4 : Box w (B + 4) #[.string ⟨#[47]⟩] 9
 b5 : Box w (B + 5) #[.string ⟨#[109, 105, 110]⟩] 9
 b6 : Box w (B + 6) #[.string ⟨#[109, 97, 120]⟩] 9
 tb : Box w (B + 7) (tabB B) 254
theorem Six.below {w w' : World} {B : Nat} (h : Six w B) (hb : Below w.heap.size w w') : Six w' B := ⟨h.b1.below hb, h.b2.below hb, h.b3.below hb, h.b4.below hb, h.b5.below hb, h.b6.below hb, h.tb.below hb⟩
theorem Six.set {w : World} {B : Nat} (h : Six w B) (u : Value) : Six (w.setCell ⟨B, 0, none⟩ u) B := ⟨h.b1.setOther u (by simp), h.b2.setOther u (by simp), h.b3.setOther u (by simp), h.b4.setOther u (by simp), h.b5.setOther u (by simp), h.b6.setOther u (by simp), h.tb.setOther u (by simp)⟩
theorem Six.grown {w w' : World} {B : Nat} {row : Option Nat} (h : Six w B) (hg : w.grownBy w' row) (hr : ∀ b, row = some b → B + 8 ≤ b) : Six w' B := by
 have hne : ∀ j, j < 8 → row ≠ some (B + j) := fun j hj e => by have := hr _ e; omega
 exact ⟨h.b1.grown hg (hne 1 (by omega)), h.b2.grown hg (hne 2 (by omega)), h.b3.grown hg (hne 3 (by omega)), h.b4.grown hg (hne 4 (by omega)), h.b5.grown hg (hne 5 (by omega)), h.b6.grown hg (hne 6 (by omega)), h.tb.grown hg (hne 7 (by omega))⟩
def FnB (w : World) (f : FuncId) (caps : Array Value) : Prop := ∀ (a : Option Addr) (n c : Nat) (xs : List Tk) (b : Option Addr) (m d : Nat) (ys : List Tk) (W : World), Below w.heap.size w W → SL encT 4 W a n c xs → SL encT 4 W b m d ys → (∀ t ∈ xs, OkT t) → (∀ t ∈ ys, OkT t) → n + m ≤ 90000 → Calls Tryz.prog f (#[.slice a n c, .slice b m d] ++ caps) W (RetT W (n + m + 5))
theorem Six.inf {w : World} {f : Nat} {s : ByteArray} (h : Box w f #[.string s] 9) (hs : OkT (sgT s)) : FnB w 151 #[.pointer (some ⟨f, 0, none⟩)] := fun a n c xs b m d ys W hB hx hy ox oy hnm =>
 infix_any s f a n c xs b m d ys W (by simpa using (h.below hB).cell 0) hs hx hy ox oy hnm
theorem Six.cal {w : World} {f : Nat} {s : ByteArray} (h : Box w f #[.string s] 9) (hs : OkT (nmT s)) : FnB w 155 #[.pointer (some ⟨f, 0, none⟩)] := fun a n c xs b m d ys W hB hx hy ox oy hnm =>
 call2_any s f a n c xs b m d ys W (by simpa using (h.below hB).cell 0) hs hx hy ox oy hnm
theorem sg43 : OkT (sgT ⟨#[43]⟩) := sg_ok (by decide +kernel)
theorem sg45 : OkT (sgT ⟨#[45]⟩) := sg_ok (by decide +kernel)
theorem sg42 : OkT (sgT ⟨#[42]⟩) := sg_ok (by decide +kernel)
theorem sg47 : OkT (sgT ⟨#[47]⟩) := sg_ok (by decide +kernel)
theorem nm_min : OkT (nmT ⟨#[109, 105, 110]⟩) := nm_ok (by decide +kernel)
theorem nm_max : OkT (nmT ⟨#[109, 97, 120]⟩) := nm_ok (by decide +kernel)
theorem Six.get {w : World} {B : Nat} (h : Six w B) {j : Nat} (h3 : 3 ≤ j) (h10 : j < 10) : ∃ f caps, w.cell? ⟨B + 7, j, none⟩ = some (.func (.func f) #[] caps) ∧ Enters Tryz.prog f ∧ FnB w f caps := by
 have hc := h.tb.cell j
 have hs : j = 3 ∨ j = 4 ∨ j = 5 ∨ j = 6 ∨ j = 7 ∨ j = 8 ∨ j = 9 := by omega
 have e1 : Enters Tryz.prog 151 := enters_of Tryz.func151 (by kernel_rfl) rfl
 have e2 : Enters Tryz.prog 155 := enters_of Tryz.func155 (by kernel_rfl) rfl
 have e3 : Enters Tryz.prog 157 := enters_of Tryz.func157 (by kernel_rfl) rfl
 rcases hs with rfl | rfl | rfl | rfl | rfl | rfl | rfl
 · exact ⟨_, _, hc, e1, Six.inf h.b1 sg43⟩
 · exact ⟨_, _, hc, e1, Six.inf h.b2 sg45⟩
 · exact ⟨_, _, hc, e1, Six.inf h.b3 sg42⟩
 · exact ⟨_, _, hc, e1, Six.inf h.b4 sg47⟩
 · exact ⟨_, _, hc, e2, Six.cal h.b5 nm_min⟩
 · exact ⟨_, _, hc, e2, Six.cal h.b6 nm_max⟩
 · exact ⟨_, _, hc, e3, fun a n c xs b m d ys W hB hx hy ox oy hnm => less_any a n c xs b m d ys W hx hy ox oy hnm⟩
structure PtT (w : World) (B : Nat) (v : Value) (p : Pt) : Prop where
 sl : SL encT 4 w p.a p.n p.c p.ts
 ok : ∀ t ∈ p.ts, OkT t
 at' : 0 < p.n → ∃ b o, p.a = some ⟨b, o, none⟩ ∧ B + 8 ≤ b ∧ v.ownBlock ≠ some b
structure PtW (w : World) (B : Nat) (v : Value) (ps : List Pt) (k : Nat) : Prop where
 box : Box w B #[v] 193
 own : OwnSL encP 2 w (B + 8) 199 v ps
 txt : ∀ p ∈ ps, PtT w B v p
 sum : (ps.map (·.n)).sum ≤ 5 * k
 six : Six w B
theorem PtT.below {w w' : World} {B : Nat} {v : Value} {p : Pt} (h : PtT w B v p) (hb : Below w.heap.size w w') : PtT w' B v p := ⟨h.sl.below hb, h.ok, h.at'⟩
theorem PtW.below {w w' : World} {B : Nat} {v : Value} {ps : List Pt} {k : Nat} (h : PtW w B v ps k) (hb : Below w.heap.size w w') : PtW w' B v ps k := ⟨h.box.below hb, h.own.below hb, fun p hp => (h.txt p hp).below hb, h.sum, h.six.below hb⟩
theorem own_take {α : Type} {enc : α → List Value} {k : Nat} (hk : ∀ x, (enc x).length = k) {w : World} {base : Nat} {e : TypeId} {a : Option Addr} {n c : Nat} {l : List α} (h : OwnSL enc k w base e (.slice a n c) l) {m : Nat} (hm : m ≤ l.length) : w.ownsRow base e k (.slice a m c) m ((l.take m).flatMap enc) := by
 have hl : (l.take m).flatMap enc = (l.flatMap enc).take (m * k) := by
  conv => rhs; rw [← List.take_append_drop m l, List.flatMap_append]
  have hz : ((l.take m).flatMap enc).length = m * k := by rw [flat_len hk, List.length_take, Nat.min_eq_left hm]
  rw [← hz, List.take_left]
 unfold OwnSL at h
 refine ⟨by rw [flat_len hk, List.length_take, Nat.min_eq_left hm], ?_⟩
 rcases h.2 with ⟨e1, h0⟩ | ⟨g, cap, cur, e1, hB, hg, h1, h2, h3, h4⟩
 · injection e1 with e2 e3 e4
   subst e2 e4
   left
   exact ⟨by rw [show m = 0 by omega], by omega⟩
 · injection e1 with e2 e3 e4
   subst e2 e4
   right
   refine ⟨g, c, cur, rfl, hB, hg, by omega, h2, h3, ?_⟩
   rw [hl, ← h4, List.take_take]
   congr 1
   exact (Nat.min_eq_left (Nat.mul_le_mul_right _ hm)).symm
theorem PtW.lt {w : World} {B : Nat} {v : Value} {ps : List Pt} {k : Nat} (h : PtW w B v ps k) : ∀ b, v.ownBlock = some b → B + 8 ≤ b ∧ b < w.heap.size := h.own.lt
theorem PtW.put {w w' : World} {B : Nat} {v v' : Value} {ps : List Pt} {k m : Nat} {p : Pt} (h : PtW w B v ps k) (hp : PtT w B v p) (hm : m ≤ ps.length) (hs : (((ps.take m) ++ [p]).map (·.n)).sum ≤ 5 * (k + 1))
 (hown : w'.ownsRow (B + 8) 199 2 v' (m + 1) ((ps.take m).flatMap encP ++ encP p)) (hg : w.grownBy w' v.ownBlock) (hor : v'.ownBlock = v.ownBlock ∨ v'.ownBlock = some w.heap.size) :
 PtW (w'.setCell ⟨B, 0, none⟩ v') B v' (ps.take m ++ [p]) (k + 1) := by
 have hlt := h.lt
 have hvB : v.ownBlock ≠ some B := fun e => by have := (hlt _ e).1; omega
 have hbb := h.box.lt
 have hv'B : ∀ b, v'.ownBlock = some b → B + 8 ≤ b := fun b e => by
  rcases hor with h1 | h1
  · exact (hlt b (by rw [← h1]; exact e)).1
  · rw [h1] at e; injection e with e; subst e
    have := h.six.tb.lt; omega
 have hT : ∀ q, PtT w B v q → PtT (w'.setCell ⟨B, 0, none⟩ v') B v' q := fun q hq => by
  refine ⟨(hq.sl.grown hg fun hn => ?_).setOther v' fun hn => ?_, hq.ok, fun hn => ?_⟩
  · obtain ⟨b, o, e, _, h2⟩ := hq.at' hn
    rw [e]; exact Ne.symm h2
  · obtain ⟨b, o, e, h1, _⟩ := hq.at' hn
    rw [e]
    show some b ≠ some B
    intro e2; injection e2 with e2; omega
  · obtain ⟨b, o, e, h1, h2⟩ := hq.at' hn
    refine ⟨b, o, e, h1, fun e2 => ?_⟩
    rcases hor with h3 | h3
    · exact h2 (by rw [← h3]; exact e2)
    · rw [h3] at e2; injection e2 with e2
      obtain ⟨b', o', e', hl⟩ := hq.sl.at' hn
      rw [e] at e'; injection e' with e'; injection e' with e' _
      omega
 refine ⟨?_, ?_, fun q hq => ?_, hs, (h.six.grown hg fun b e => (hlt b e).1).set v'⟩
 · have := (h.box.grown hg hvB).set 0 v'
   simpa using this
 · refine OwnSL.setOther (w := w') ?_ v' fun e => ?_
   · unfold OwnSL
     rw [List.length_append, List.length_take, Nat.min_eq_left hm, List.flatMap_append]
     simpa using hown
   · have := hv'B _ e; simp at this; omega
 · rcases List.mem_append.1 hq with hq | hq
   · exact hT q (h.txt q (List.mem_of_mem_take hq))
   · rw [List.mem_singleton.1 hq]; exact hT p hp
theorem stB_cons (y : Wd) (l : List Wd) (st : List Bool) : stB (y :: l) st = (pushB st y).bind (stB l) := by
 cases h : pushB st y <;> simp [stB, h]
theorem stB_app : ∀ (l m : List Wd) (st : List Bool), stB (l ++ m) st = (stB l st).bind (stB m)
 | [], m, st => rfl
 | y :: l, m, st => by
  rw [List.cons_append, stB_cons, stB_cons]
  cases pushB st y with
  | none => rfl
  | some s => exact stB_app l m s
theorem stB_snoc (l : List Wd) (x : Wd) (st : List Bool) : stB (l ++ [x]) st = (stB l st).bind fun s => pushB s x := by
 rw [stB_app]
 congr 1
 funext s
 rw [stB_cons]
 cases pushB s x <;> rfl
theorem stB_to {ws : List Wd} {k : Nat} {x : Wd} {s s' : List Bool} (hx : ws[k]? = some x) (h : stB (ws.take k) [] = some s) (h2 : pushB s x = some s') : stB (ws.take (k + 1)) [] = some s' := by
 rw [takeF hx, stB_snoc, h]; exact h2
theorem okW_no {ws : List Wd} {k : Nat} {x : Wd} {s : List Bool} (hx : ws[k]? = some x) (h : stB (ws.take k) [] = some s) (h2 : pushB s x = none) : okW ws = false := by
 have : stB ws [] = none := by
  rw [← List.take_append_drop (k + 1) ws, stB_app, takeF hx, stB_snoc, h]
  show (Option.bind (pushB s x) _) = none
  rw [h2]; rfl
 unfold okW
 rw [this, Bool.and_false]
end Go.Proofs.YtehoidohallfcaaGreatDoor
