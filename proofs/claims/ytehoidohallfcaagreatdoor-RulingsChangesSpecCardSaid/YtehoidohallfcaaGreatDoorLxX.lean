/- Contracts of lex.class and lex.Name. -/
import Derived.Test.YtehoidohallfcaaGreatDoorKaX
import Derived.Test.YtehoidohallfcaaGreatDoorShelf
import Derived.Lib.AppendIntMem
import Derived.Lib.ItoaLen
namespace Go.Proofs.YtehoidohallfcaaGreatDoor
open Go.RowKit
def classI (x : Int) : Int := if 97 ≤ x ∧ x ≤ 122 ∨ 65 ≤ x ∧ x ≤ 90 then 2 else if 48 ≤ x ∧ x ≤ 57 then 3 else if x = 95 then 5 else if x = 32 ∨ x = 9 ∨ x = 10 ∨ x = 13 then 1 else if 0 ≤ Lib.indexByte [123, 125, 40, 41, 59, 44, 61, 58, 46, 60, 62, 33, 43, 45, 42, 47] (UInt8.ofNat x.toNat) then 4 else 0
def Cls (x : Int) (W : World) (e : Ending) (w' : World) : Prop := e = .returned (.int .i64 (classI x)) ∧ w' = W
theorem cls_of {x c : Int} {W : World} {e : Ending} (he : e = .returned (.int .i64 c)) (h : classI x = c) : Cls x W e W := ⟨by rw [he, h], rfl⟩
set_option maxHeartbeats 4000000 in
theorem class_any (x : Int) (W : World) : Calls Tryz.prog 252 #[.int .u8 x] W (Cls x W) := by
 go_enter Tryz.func252, Tryz.ntmps252
 go_wp2_with (go_at_call 340; refine (Tryz.strings_IndexByte _ _ _).mono ?_; rintro e w' ⟨rfl, rfl⟩)
 all_goals
  go_ret
  refine cls_of rfl ?_
  (try simp only [beq_iff_eq, beq_eq_false_iff_ne, ne_eq] at *)
  unfold classI
  (repeat' split) <;> first | rfl | omega | (exfalso; omega)
def clsB (c : UInt8) : Bool := decide (classI c.toNat = 2 ∨ classI c.toNat = 3 ∨ classI c.toNat = 5)
def nameB (s : ByteArray) : Bool := decide (s.size ≠ 0) && decide (s.size ≤ 32) && (decide (classI (s.data.toList.headD 0).toNat = 2) && s.data.toList.all clsB)
set_option maxHeartbeats 2000000 in
theorem name_any (s : ByteArray) (W : World) (hs : s.size ≤ 1000000) (hn : nameB s = true) : Calls Tryz.prog 251 #[.string s] W fun e w' => e = .returned (.bool true) ∧ w' = W := by
 unfold nameB at hn
 simp only [Bool.and_eq_true, decide_eq_true_eq] at hn
 obtain ⟨⟨h0, h1⟩, h2, h3⟩ := hn
 have hz : s.toList.isEmpty = false := by
  rw [Lib.toList_data]
  cases e : s.data.toList with
  | nil => exact absurd (by rw [Lib.size_eq, e]; rfl) h0
  | cons _ _ => rfl
 have H2 := Lib.hid h2
 have H3 := Lib.hid h3
 have p0 : 0 < s.size := by omega
 clear h2 h3
 go_enter Tryz.func251, Tryz.ntmps251
 have e0 : s.data.toList.headD 0 = s[0] := by
  cases e : s.data.toList with
  | nil => exact absurd (by rw [Lib.size_eq, e]; rfl) h0
  | cons a r =>
   have : s.data.toList[0]? = some s[0] := by rw [List.getElem?_eq_getElem (by rw [← Lib.size_eq]; exact p0)]; rfl
   rw [e] at this
   simpa using this
 have K0 : Hid (classI (s[0].toNat : Int) = 2) := Lib.hid (by rw [← e0]; exact H2.out)
 have hsz : (s.size : Int) ≤ 32 := by omega
 have hl32 : ¬ (32 : Int) < (s.size : Int) := by omega
 clear e0
 go_wp2_with fail
 refine (class_any _ _).mono ?_
 rintro e w' ⟨rfl, rfl⟩
 rw [K0.out]
 go_wp2_with fail
 go_loop [20] (fun i => ∃ k : Nat, i = .int .i64 k ∧ k ≤ s.size) (fun i => s.size - (intOf i).toNat)
 case atStart => exact ⟨0, rfl, by omega⟩
 case round =>
  obtain ⟨k, rfl, hk⟩ := hrel
  by_cases hlt : k < s.size
  · have hc : clsB s[k] = true := List.all_eq_true.1 H3.out _ (by
     have : s[k] = s.data.toList[k]'(by rw [← Lib.size_eq]; exact hlt) := rfl
     rw [this]; exact List.getElem_mem _)
    unfold clsB at hc
    have hc := of_decide_eq_true hc
    obtain ⟨v, hv⟩ : ∃ v, classI (s[k].toNat : Int) = v := ⟨_, rfl⟩
    rw [hv] at hc
    have HV := Lib.hid hv
    clear hv
    have s0 : (0 : Int) ≤ (k : Int) := by omega
    have s1 : (k : Int) < (s.size : Int) := by omega
    rcases hc with rfl | rfl | rfl
    all_goals
     go_wp2_with fail
     refine (class_any _ _).mono ?_
     rintro e w' ⟨rfl, rfl⟩
     rw [HV.out]
     go_wp2_with fail
     go_round
     case rel => exact ⟨k + 1, by go_num, by omega⟩
     case measure => simp [intOf]; omega
  · obtain rfl : s.size = k := by omega
    go_wp2_with fail
    go_ret
    exact ⟨rfl, rfl⟩
end Go.Proofs.YtehoidohallfcaaGreatDoor
/- Contract of lex.valid at tokens of a scoring program. -/
namespace Go.Proofs.YtehoidohallfcaaGreatDoor
open Go.RowKit
structure Tk where
 kd : Int
 tx : ByteArray
 n : Int
 at' : Int
def encT (t : Tk) : List Value := [.int .i64 t.kd, .string t.tx, .int .i64 t.n, .int .i64 t.at']
theorem encT_len (t : Tk) : (encT t).length = 4 := rfl
inductive OkT : Tk → Prop
 | name {s : ByteArray} {a : Int} : nameB s = true → OkT ⟨1, s, 0, a⟩
 | num {n a : Int} : 0 ≤ n → n ≤ 1048576 → OkT ⟨2, ⟨#[]⟩, n, a⟩
 | sign {c : UInt8} {a : Int} : classI c.toNat = 4 → OkT ⟨3, ⟨#[c]⟩, 0, a⟩
theorem nameB_size {s : ByteArray} (h : nameB s = true) : s.size ≠ 0 ∧ s.size ≤ 32 := by
 unfold nameB at h
 simp only [Bool.and_eq_true, decide_eq_true_eq] at h
 exact h.1
set_option maxHeartbeats 2000000 in
theorem valid_any (t : Tk) (h : OkT t) (W : World) : Calls Tryz.prog 161 #[.agg #[.int .i64 t.kd, .string t.tx, .int .i64 t.n, .int .i64 t.at']] W fun e w' => RetB W (.bool true) e w' := by
 cases h with
 | @name s a hn =>
  have hs := nameB_size hn
  have HN := Lib.hid (fun W => name_any s W (by omega) hn)
  clear hn
  go_enter Tryz.func161, Tryz.ntmps161
  go_wp2_with fail
  refine (HN.out _).mono ?_
  rintro e w' ⟨rfl, rfl⟩
  go_wp2_with fail
  go_ret
  exact ⟨rfl, al0 _ _ _⟩
 | @num n a h0 h1 =>
  have h2 : n ≤ 1099511627776 := by omega
  go_enter Tryz.func161, Tryz.ntmps161
  go_wp2_with fail
  go_ret
  exact ⟨rfl, al0 _ _ _⟩
 | @sign c a hc =>
  have HC := Lib.hid hc
  clear hc
  go_enter Tryz.func161, Tryz.ntmps161
  go_wp2_with fail
  refine (class_any _ _).mono ?_
  rintro e w' ⟨rfl, rfl⟩
  rw [show classI (((⟨#[c]⟩ : ByteArray)[0]'(by show 0 < 1; omega)).toNat : Int) = 4 from HC.out]
  go_wp2_with fail
  go_ret
  exact ⟨rfl, al0 _ _ _⟩
theorem itoa_any (n : Int) (h0 : 0 ≤ n) (h1 : n ≤ 1048576) (W : World) (ht : Tab W) : Calls Tryz.prog 162 #[.int .i64 n] W fun e w' => RetB W (.string ⟨(Lib.itoa n).toArray⟩) e w' :=
 (Tryz.strconv_Itoa n (by omega) (by omega) W ht).mono fun e w' ⟨he, k, os, hw⟩ => ⟨he, by rw [hw]; exact Lib.below_grow _ _ (Nat.le_refl _) k os⟩
end Go.Proofs.YtehoidohallfcaaGreatDoor
/- Contract of lex.Text at tokens of a scoring program. -/
namespace Go.Proofs.YtehoidohallfcaaGreatDoor
open Go.RowKit
theorem info_str : (Tryz.prog.info? 9).map (fun i => (i.zero, i.size, i.bytes)) = some (some (.string ⟨#[]⟩), 1, 16) := by kernel_rfl
def arrS (n : Nat) (l : List ByteArray) : Array Value := ((List.range n).map fun (i : Nat) => Value.string (l[i]?.getD ⟨#[]⟩)).toArray
theorem arrS_size (n : Nat) (l : List ByteArray) : (arrS n l).size = n := by unfold arrS; simp
theorem arrS_get (n : Nat) (l : List ByteArray) {i : Nat} (h : i < n) : (arrS n l)[i]? = some (.string (l[i]?.getD ⟨#[]⟩)) := by unfold arrS; simp [h]
theorem arrS_nil (n : Nat) : madeCells #[.string ⟨#[]⟩] n = arrS n [] := by
 apply Array.ext
 · rw [arrS_size, size_madeCells]
 · intro i h1 h2
   rw [arrS_size] at h2
   have := arrS_get n [] h2
   rw [Array.getElem?_eq_getElem (by rw [arrS_size]; exact h2)] at this
   injection this with this
   rw [this]
   simp [madeCells, Nat.mod_one]
theorem arrS_set (n : Nat) (l : List ByteArray) (x : ByteArray) {k : Nat} (hk : l.length = k) (h : k < n) : (arrS n l).setIfInBounds k (.string x) = arrS n (l ++ [x]) := by
 subst hk
 apply Array.ext_getElem?
 intro i
 by_cases hi : i < n
 · rw [arrS_get n _ hi]
   by_cases hc : l.length = i
   · subst hc
     rw [Array.getElem?_setIfInBounds_self_of_lt (by rw [arrS_size]; exact h)]
     simp
   · rw [Array.getElem?_setIfInBounds_ne hc, arrS_get n _ hi]
     by_cases hl : i < l.length
     · rw [List.getElem?_append_left hl]
     · rw [List.getElem?_append_right (by omega), List.getElem?_eq_none (by omega), List.getElem?_eq_none (by simp; omega)]
 · rw [Array.getElem?_eq_none (by simp [arrS_size]; omega), Array.getElem?_eq_none (by rw [arrS_size]; omega)]
theorem make_strs (N : Nat) (hN : N ≤ 1000000) (w : World) : (Instr.makeSlice 173 (.int .i64 N) (.int .i64 N)).run Tryz.prog w = .ok (.slice (some ⟨w.heap.size, 0, none⟩) N N) (w.alloc (.cells (arrS N []) 9)) := by
 obtain ⟨ib, hib, hb0, hb1, hb2⟩ := info_parts info_str
 have h := run_make (P := Tryz.prog) w 173 9 ib _ Tryz.underlying173 hib hb0 .i64 .i64 N N (by omega) (by omega) (by rw [hb2]; omega) (by omega)
 simp only [Int.toNat_natCast, hb1, Nat.mul_one] at h
 rw [← arrS_nil]; exact h
def wordT (t : Tk) : ByteArray := if t.kd = 2 then ⟨(Lib.itoa t.n).toArray⟩ else t.tx
theorem wordT_len {t : Tk} (h : OkT t) : (wordT t).size ≤ 32 := by
 cases h with
 | name hn => exact (nameB_size hn).2
 | @num m a h0 h1 =>
  have := Lib.itoa_length_le m (by omega) (by omega)
  show ((Lib.itoa _).toArray).size ≤ 32
  rw [List.size_toArray]
  exact Nat.le_trans this (by omega)
 | sign hc => show 1 ≤ 32; omega
theorem SL.t4 {w : World} {b o n c i : Nat} {l : List Tk} (h : SL encT 4 w (some ⟨b, o, none⟩) n c l) {x : Tk} (hx : l[i]? = some x) : w.cell? ⟨b, o + i * 4, none⟩ = some (.int .i64 x.kd) ∧ w.cell? ⟨b, o + i * 4 + 1, none⟩ = some (.string x.tx) ∧ w.cell? ⟨b, o + i * 4 + 2, none⟩ = some (.int .i64 x.n) ∧ w.cell? ⟨b, o + i * 4 + 3, none⟩ = some (.int .i64 x.at') :=
 ⟨h.cell b o rfl i x hx 0 _ rfl, h.cell b o rfl i x hx 1 _ rfl, h.cell b o rfl i x hx 2 _ rfl, h.cell b o rfl i x hx 3 _ rfl⟩
theorem join_small (l : List ByteArray) (sep : List UInt8) (hs : sep.length ≤ 1) (h : ∀ x ∈ l, x.size ≤ 32) : (Lib.join (l.map (·.data.toList)) sep).length ≤ 33 * l.length := by
 have hl : ∀ l : List ByteArray, (∀ x ∈ l, x.size ≤ 32) → Lib.lens (l.map (·.data.toList)) ≤ 32 * l.length := by
  intro l
  induction l with
  | nil => intro _; simp [Lib.lens]
  | cons x l ih =>
   intro h
   have h1 := ih fun y hy => h y (List.mem_cons_of_mem _ hy)
   have h2 := h x (List.mem_cons_self ..)
   rw [Lib.size_eq] at h2
   unfold Lib.lens at h1 ⊢
   simp only [List.map_cons, List.sum_cons, List.length_cons]
   omega
 cases l with
 | nil => simp [Lib.join]
 | cons x l =>
  rw [List.map_cons, Lib.join_length]
  have := hl (x :: l) h
  rw [List.map_cons] at this
  rw [List.length_map, List.length_cons]
  have : sep.length * l.length ≤ 1 * l.length := Nat.mul_le_mul_right _ hs
  simp only [List.length_cons] at *
  omega
set_option maxHeartbeats 2000000 in
theorem text_any (a : Option Addr) (n c : Nat) (ts : List Tk) (W : World) (h0 : SL encT 4 W a n c ts) (hn : n ≤ 100000) (ht : Tab W) (hok : ∀ t ∈ ts, OkT t) :
 Calls Tryz.prog 114 #[.slice a n c] W fun e w' => ∃ s : ByteArray, e = .returned (.tuple #[.string s, .int .i64 0]) ∧ Below W.heap.size W w' := by
 have HL := Lib.hid h0.len
 have HOK := Lib.hid hok
 have hmk := make_strs n (by omega)
 have hbx := Box.new W (arrS n []) 9
 have hal := al0 W (arrS n []) 9
 clear hok
 go_enter Tryz.func114, Tryz.ntmps114
 go_wp2_with fail
 go_loopw [12] (fun i wr => ∃ k : Nat, i = .int .i64 k ∧ k ≤ n ∧ Box wr W.heap.size (arrS n ((ts.take k).map wordT)) 9 ∧ Below W.heap.size W wr) (fun i _ => n - (intOf i).toNat)
 case atStart => exact ⟨0, rfl, by omega, by simpa using hbx, hal⟩
 case round =>
  clear hbx hal hmk
  obtain ⟨k, rfl, hk, hbx, hB⟩ := hrel
  by_cases hlt : k < n
  · obtain ⟨b0, o0, rfl, hb0⟩ := h0.at' (by omega)
    obtain ⟨t, hX⟩ := h0.get hlt
    obtain ⟨e0, e1, e2, e3⟩ := (h0.below hB).t4 hX
    have HT : Hid (OkT t ∧ (ts.take (k + 1)).map wordT = (ts.take k).map wordT ++ [wordT t]) := Lib.hid ⟨HOK.out t (List.mem_of_getElem? hX), by rw [takeF hX, List.map_append]; rfl⟩
    have s0 : (0 : Int) ≤ (k : Int) := by omega
    have s1 : (k : Int) < (n : Int) := by omega
    have hbl := hbx.lt
    have HX := Lib.hid hX
    clear hX
    have hr : Box (wr.alloc (.cells #[.int .i64 t.kd, .string t.tx, .int .i64 t.n, .int .i64 t.at'] 251)) wr.heap.size #[.int .i64 t.kd, .string t.tx, .int .i64 t.n, .int .i64 t.at'] 251 := Box.new _ _ _
    have hB0 := al0 wr #[.int .i64 t.kd, .string t.tx, .int .i64 t.n, .int .i64 t.at'] 251
    have hlen : ((ts.take k).map wordT).length = k := by rw [List.length_map, List.length_take, HL.out]; omega
    have HLE := Lib.hid hlen
    clear hlen e0 e1 e2 e3
    obtain ⟨e0, e1, e2, e3⟩ := (h0.below hB).t4 HX.out
    go_wp2_with fail
    refine (valid_any t HT.out.1 _).mono ?_
    rintro e w1 ⟨rfl, hA⟩
    have hr1 := hr.below hA
    have hb1 := (hbx.below hB0).below hA
    have hB1 := (hB.on hB0).on hA
    have d0 := hr1.cell 0
    have d1 := hr1.cell 1
    have d2 := hr1.cell 2
    simp only [List.getElem?_toArray, List.getElem?_cons_zero, List.getElem?_cons_succ] at d0 d1 d2
    have hne : ¬ wr.heap.size = W.heap.size := by omega
    clear hr hbx hA hB0 e0 e1 e2 e3
    have hs1 := hr1.lt
    by_cases hk2 : t.kd = 2
    · have k0 : (t.kd == 2) = true := by simpa using hk2
      have hnum : 0 ≤ t.n ∧ t.n ≤ 1048576 := by
       have h := HT.out.1
       cases h with
       | name _ => simp at hk2
       | num h0 h1 => exact ⟨h0, h1⟩
       | sign _ => simp at hk2
      have HW : Hid (wordT t = ⟨(Lib.itoa t.n).toArray⟩) := Lib.hid (by unfold wordT; rw [if_pos hk2])
      clear hk2
      go_wp2_with fail
      refine (itoa_any t.n hnum.1 hnum.2 w1 (ht.below hB1)).mono ?_
      rintro e w2 ⟨rfl, hA⟩
      have hb2 := hb1.below hA
      have hB2 := hB1.on hA
      have gf := hb2.frozen k
      obtain ⟨v0, hv0⟩ : ∃ v, w2.cell? ⟨W.heap.size, k, none⟩ = some v := ⟨_, (hb2.cell k).trans (arrS_get _ _ hlt)⟩
      have hset := hb2.set k (.string ⟨(Lib.itoa t.n).toArray⟩)
      rw [← HW.out, arrS_set n _ (wordT t) HLE.out hlt, ← HT.out.2] at hset
      have HS := Lib.hid hset
      have hB3 : Below W.heap.size W (w2.setCell ⟨W.heap.size, k, none⟩ (.string (wordT t))) := hB2.setCell (Nat.le_refl _) _
      obtain ⟨sx, hsx⟩ : ∃ sx : ByteArray, ⟨(Lib.itoa t.n).toArray⟩ = sx := ⟨_, rfl⟩
      rw [HW.out, hsx] at HS hB3
      rw [hsx]
      clear hset hb1 hb2 hA hr1 d0 d1 d2 hsx
      go_wp2_with fail
      go_roundw
      case rel => exact ⟨k + 1, by go_num, by omega, HS.out, hB3⟩
      case measure => simp [intOf]; omega
    · have k0 : (t.kd == 2) = false := by simpa using hk2
      have HW : Hid (wordT t = t.tx) := Lib.hid (by unfold wordT; rw [if_neg hk2])
      clear hk2
      have gf := hb1.frozen k
      obtain ⟨v0, hv0⟩ : ∃ v, w1.cell? ⟨W.heap.size, k, none⟩ = some v := ⟨_, (hb1.cell k).trans (arrS_get _ _ hlt)⟩
      have hset := hb1.set k (.string t.tx)
      rw [← HW.out, arrS_set n _ (wordT t) HLE.out hlt, ← HT.out.2] at hset
      have HS := Lib.hid hset
      have hB3 : Below W.heap.size W (w1.setCell ⟨W.heap.size, k, none⟩ (.string (wordT t))) := hB1.setCell (Nat.le_refl _) _
      rw [HW.out] at HS hB3
      clear hset hb1
      go_wp2_with fail
      go_roundw
      case rel => exact ⟨k + 1, by go_num, by omega, HS.out, hB3⟩
      case measure => simp [intOf]; omega
  · obtain rfl : n = k := by omega
    have hlt2 := hbx.lt
    rw [List.take_of_length_le (by rw [HL.out]; exact Nat.le_refl _)] at hbx
    have HX := Lib.hid hbx
    have hwl : (ts.map wordT).length = n := by rw [List.length_map, HL.out]
    have HWL := Lib.hid hwl
    have hj := join_small (ts.map wordT) [32] (by simp) (fun x hx => by obtain ⟨t, ht, rfl⟩ := List.mem_map.1 hx; exact wordT_len (HOK.out t ht))
    rw [hwl] at hj
    have HJ := Lib.hid hj
    clear hbx hwl hj
    by_cases hn0 : n = 0
    · subst hn0
      go_wp2_with fail
      refine (Tryz.strings_Join_none _ _ _ _).mono ?_
      rintro e w' ⟨rfl, rfl⟩
      go_wp2_with fail
      go_ret2
      exact ⟨_, rfl, hB⟩
    · have hc := Tryz.strings_Join W.heap.size 0 n (ts.map wordT) ⟨#[32]⟩ wr (fun j x hx => by
       have hj : j < n := by rw [← HWL.out]; exact (List.getElem?_eq_some_iff.1 hx).1
       have := HX.out.cell j
       rw [arrS_get _ _ hj, hx] at this
       rw [Nat.zero_add]; exact this) hlt2 (by rw [HWL.out]; omega) (by rw [HWL.out]; exact Nat.le_refl _) (Nat.le_trans HJ.out (by omega))
      rw [HWL.out] at hc
      have HC := Lib.hid hc
      clear hc
      go_wp2_with fail
      refine HC.out.mono ?_
      rintro e w' ⟨rfl, hA⟩
      go_wp2_with fail
      go_ret2
      exact ⟨_, rfl, hB.on hA⟩
end Go.Proofs.YtehoidohallfcaaGreatDoor
