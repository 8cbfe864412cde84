/- Contract of points.parts, the walk. -/
import Derived.Test.YtehoidohallfcaaGreatDoorPtY
namespace Go.Proofs.YtehoidohallfcaaGreatDoor
open Go.RowKit
theorem plB_iff (st : List Bool) : plB st = true ↔ 2 ≤ st.length ∧ st[st.length - 2]? = some false ∧ st[st.length - 1]? = some false := by
 unfold plB
 by_cases h : 2 ≤ st.length
 · obtain ⟨n, hn⟩ : ∃ n, st.length = n + 2 := ⟨st.length - 2, by omega⟩
   have e1 : st[n]? = some (st[n]'(by omega)) := List.getElem?_eq_getElem _
   have e2 : st[n + 1]? = some (st[n + 1]'(by omega)) := List.getElem?_eq_getElem _
   have hd : st.drop n = [st[n]'(by omega), st[n + 1]'(by omega)] := by
    rw [List.drop_eq_getElem_cons (by omega), List.drop_eq_getElem_cons (by omega), List.drop_eq_nil_of_le (by omega)]
   rw [hn, show n + 2 - 2 = n by omega, show n + 2 - 1 = n + 1 by omega, hd, e1, e2]
   simp
 · rw [decide_eq_false h]; simp; omega
theorem pushB_none {st : List Bool} {w : Wd} (h1 : ¬ (w.op = 1 ∧ 0 ≤ w.n ∧ w.n ≤ 1048576)) (h2 : ¬ (w.op = 2 ∧ 0 ≤ w.n ∧ w.n < 5)) (h3 : ¬ (w.op = 10 ∧ w.n = 0 ∧ 2 < st.length ∧ st[st.length - 3]? = some true ∧ plB st = true)) (h4 : ¬ (3 ≤ w.op ∧ w.op < 10 ∧ w.n = 0 ∧ plB st = true)) : pushB st w = none := by
 unfold pushB
 rw [if_neg h1, if_neg h2, if_neg, if_neg]
 · rintro ⟨a, b, c, d, e⟩; exact h4 ⟨a, b, c, (plB_iff _).2 ⟨by omega, e⟩⟩
 · rintro ⟨a, b, c, d, e⟩; exact h3 ⟨a, b, c, d, (plB_iff _).2 ⟨by omega, e⟩⟩
def RetP (W : World) (ws : List Wd) (e : Ending) (w' : World) : Prop := ∃ v, e = .returned (.tuple #[v, .bool (okW ws)]) ∧ Below W.heap.size W w' ∧ (okW ws = true → ∃ (g o cc : Nat) (p : Pt), v = .slice (some ⟨g, o, none⟩) 1 cc ∧ w'.cell? ⟨g, o, none⟩ = some (.slice p.a p.n p.c) ∧ SL encT 4 w' p.a p.n p.c p.ts ∧ (∀ t ∈ p.ts, OkT t) ∧ p.n ≤ 1280)
theorem retP_no {W w' : World} {ws : List Wd} {e : Ending} (h : okW ws = false) (hb : Below W.heap.size W w') (he : e = .returned (.tuple #[.slice none 0 0, .bool false])) : RetP W ws e w' := ⟨_, by rw [he, h], hb, fun h2 => by rw [h] at h2; cases h2⟩
theorem info_pt : (Tryz.prog.info? 199).map (fun i => (i.zero, i.size, i.bytes)) = some (some (.agg #[.slice none 0 0, .bool false]), 2, 32) := by kernel_rfl
theorem box_at (w : World) (cs : Array Value) (t : TypeId) (s : Nat) (h : w.heap.size = s) : Box (w.alloc (.cells cs t)) s cs t := by subst h; exact Box.new w cs t
theorem ptw_start (W : World) : PtW ((((((((W.alloc (.cells #[.slice none 0 0] 193)).alloc (.cells #[.string ⟨#[43]⟩] 9)).alloc (.cells #[.string ⟨#[45]⟩] 9)).alloc (.cells #[.string ⟨#[42]⟩] 9)).alloc (.cells #[.string ⟨#[47]⟩] 9)).alloc (.cells #[.string ⟨#[109, 105, 110]⟩] 9)).alloc (.cells #[.string ⟨#[109, 97, 120]⟩] 9)).alloc (.cells (tabB W.heap.size) 254)) W.heap.size (.slice none 0 0) [] 0 where
 box := (((((((box_at W _ _ _ rfl).alloc _).alloc _).alloc _).alloc _).alloc _).alloc _).alloc _
 own := OwnSL.nil _ _ _ _ _
 txt := fun p hp => by cases hp
 sum := by simp
 six := {
  b1 := ((((((box_at _ _ _ _ (by simp)).alloc _).alloc _).alloc _).alloc _).alloc _).alloc _
  b2 := (((((box_at _ _ _ _ (by simp)).alloc _).alloc _).alloc _).alloc _).alloc _
  b3 := ((((box_at _ _ _ _ (by simp)).alloc _).alloc _).alloc _).alloc _
  b4 := (((box_at _ _ _ _ (by simp)).alloc _).alloc _).alloc _
  b5 := ((box_at _ _ _ _ (by simp)).alloc _).alloc _
  b6 := (box_at _ _ _ _ (by simp)).alloc _
  tb := box_at _ _ _ _ (by simp) }
theorem bel_start (W : World) (o1 o2 o3 o4 o5 o6 o7 o8 : Obj) : Below W.heap.size W ((((((((W.alloc o1).alloc o2).alloc o3).alloc o4).alloc o5).alloc o6).alloc o7).alloc o8) :=
 ((((((((Below.refl _ _).alloc (Nat.le_refl _) _).alloc (by simp) _).alloc (by simp; omega) _).alloc (by simp; omega) _).alloc (by simp; omega) _).alloc (by simp; omega) _).alloc (by simp; omega) _).alloc (by simp; omega) _
structure Fx (w : World) (B X : Nat) (v : Value) (op nn : Int) : Prop where
 c : w.cell? ⟨B, 0, none⟩ = some v
 f : w.frozen? ⟨B, 0, none⟩ = false
 d0 : w.cell? ⟨X, 0, none⟩ = some (.int .i64 op)
 d1 : w.cell? ⟨X, 1, none⟩ = some (.int .i64 nn)
 lt : B < w.heap.size
theorem Fx.below {w w' : World} {B X : Nat} {v : Value} {op nn : Int} (h : Fx w B X v op nn) (hb : Below w.heap.size w w') : Fx w' B X v op nn where
 c := (hb.cell (p := ⟨B, 0, none⟩) h.lt).trans h.c
 f := (hb.frozen (p := ⟨B, 0, none⟩) h.lt).trans h.f
 d0 := (hb.cell (p := ⟨X, 0, none⟩) (World.block_lt_of_cell? w _ h.d0)).trans h.d0
 d1 := (hb.cell (p := ⟨X, 1, none⟩) (World.block_lt_of_cell? w _ h.d1)).trans h.d1
 lt := Nat.lt_of_lt_of_le h.lt hb.size
theorem fx_of {w : World} {B : Nat} {v : Value} {ps : List Pt} {k : Nat} (h : PtW w B v ps k) (op nn : Int) : Fx (w.alloc (.cells #[.int .i64 op, .int .i64 nn] 91)) B w.heap.size v op nn := by
 have hb := (h.below (al0 w #[.int .i64 op, .int .i64 nn] 91)).box
 have hn := Box.new w #[.int .i64 op, .int .i64 nn] 91
 refine ⟨hb.cell 0, hb.frozen 0, hn.cell 0, hn.cell 1, hb.lt⟩
theorem news2 (w : World) (x y : Value) (t : TypeId) (s : Nat) (h : w.heap.size = s) : ∀ j u, [x, y][j]? = some u → (w.alloc (.cells #[x, y] t)).cell? ((⟨s, 0, none⟩ : Addr).add j) = some u := fun j u hj => by
 have := (box_at w #[x, y] t s h).cell j
 rw [show (Addr.add ⟨s, 0, none⟩ j) = ⟨s, j, none⟩ by simp [Addr.add]; omega, this, ← hj]
 exact List.getElem?_toArray
theorem sum_put {ps : List Pt} {m : Nat} {p : Pt} {k : Nat} (h : (ps.map (·.n)).sum ≤ 5 * k) (hp : p.n ≤ ((ps.drop m).map (·.n)).sum + 5) : (((ps.take m) ++ [p]).map (·.n)).sum ≤ 5 * (k + 1) := by
 have : (ps.map (·.n)).sum = ((ps.take m).map (·.n)).sum + ((ps.drop m).map (·.n)).sum := by
  conv => lhs; rw [← List.take_append_drop m ps]
  rw [List.map_append, List.sum_append]
 rw [List.map_append, List.sum_append, List.map_cons, List.map_nil, List.sum_cons, List.sum_nil]
 omega
theorem set_same {w : World} {p : Addr} {u : Value} (h : w.cell? p = some u) (v : Value) : (w.setCell p v).cell? p = some v := World.cell?_setCell_same w _ _ h
theorem PtW.far {w w' : World} {B : Nat} {v : Value} {ps : List Pt} {k : Nat} (h : PtW w B v ps k) (hg : w.grownBy w' v.ownBlock) : w'.cell? ⟨B, 0, none⟩ = some v ∧ w'.frozen? ⟨B, 0, none⟩ = false ∧ B < w'.heap.size := by
 have hb := h.box.grown hg fun e => by have := (h.lt _ e).1; omega
 exact ⟨hb.cell 0, hb.frozen 0, hb.lt⟩
theorem ptT_new {W0 w : World} {B : Nat} {v : Value} {ps : List Pt} {k : Nat} (h0 : PtW W0 B v ps k) {a : Option Addr} {n c : Nat} {ts : List Tk} {cm : Bool} (hs : SL encT 4 w a n c ts) (ok : ∀ t ∈ ts, OkT t) (hn : NewA W0 a n) : PtT w B v ⟨a, n, c, ts, cm⟩ :=
 ⟨hs, ok, fun h => by
  obtain ⟨b, o, e, hl⟩ := hn h
  have := h0.six.tb.lt
  exact ⟨b, o, e, by omega, fun e2 => by have := (h0.lt _ e2).2; omega⟩⟩
theorem st_put {ws : List Wd} {k m : Nat} {x : Wd} {ps : List Pt} {p : Pt} (hx : ws[k]? = some x) (hs : stB (ws.take k) [] = some (ps.map (·.cmp))) (h : pushB (ps.map (·.cmp)) x = some ((ps.map (·.cmp)).take m ++ [p.cmp])) : stB (ws.take (k + 1)) [] = some ((ps.take m ++ [p]).map (·.cmp)) := by
 rw [List.map_append, List.map_take]; exact stB_to hx hs h
theorem push_one {st : List Bool} {N : Nat} {w : Wd} (hN : st.length = N) (h : w.op = 1 ∧ 0 ≤ w.n ∧ w.n ≤ 1048576 ∨ w.op = 2 ∧ 0 ≤ w.n ∧ w.n < 5) : pushB st w = some (st.take N ++ [false]) := by
 rw [List.take_of_length_le (by omega)]
 unfold pushB
 rcases h with h | h
 · rw [if_pos h]
 · rw [if_neg (by omega), if_pos h]
theorem push_choose {st : List Bool} {m : Nat} (hN : st.length = m + 3) (h0 : st[m]? = some true) (h : plB st = true) : pushB st ⟨10, 0⟩ = some (st.take m ++ [false]) := by
 have h2 := (plB_iff st).1 h
 unfold pushB
 rw [if_neg (by simp), if_neg (by simp), if_pos ⟨rfl, rfl, by omega, by rw [hN]; exact h0, h2.2⟩, hN]; rfl
theorem push_bin {st : List Bool} {m j : Nat} (hN : st.length = m + 2) (h3 : 3 ≤ j) (h10 : j < 10) (h : plB st = true) : pushB st ⟨j, 0⟩ = some (st.take m ++ [((j : Int) == 9)]) := by
 have h2 := (plB_iff st).1 h
 unfold pushB
 rw [if_neg (by simp; omega), if_neg (by simp; omega), if_neg (by simp; omega), if_pos ⟨by simp; omega, by simp; omega, rfl, h2⟩, hN]
 rfl
theorem len_put {ps : List Pt} {p : Pt} {m N k : Nat} (hN : ps.length = N) (hk : N ≤ k) : (ps.take m ++ [p]).length ≤ k + 1 := by
 rw [List.length_append, List.length_take]; simp; omega
theorem inputs_sl (W : World) : Calls Tryz.prog 87 #[] W fun e w' => ∃ B, e = .returned (.slice (some ⟨B, 0, none⟩) 5 5) ∧ (∀ j s, inB[j]? = some s → w'.cell? ⟨B, j, none⟩ = some (.string s)) ∧ Below W.heap.size W w' :=
 (inputs_any W).mono fun e w' ⟨he, hw⟩ => ⟨W.heap.size, he, fun j s hs => by rw [hw, (Box.new W _ _).cell j]; simp [hs], by rw [hw]; exact al0 _ _ _⟩
theorem nm_if : OkT (nmT ⟨#[105, 102]⟩) := nm_ok (by decide +kernel)
theorem nm_then : OkT (nmT ⟨#[116, 104, 101, 110]⟩) := nm_ok (by decide +kernel)
theorem nm_else : OkT (nmT ⟨#[101, 108, 115, 101]⟩) := nm_ok (by decide +kernel)
theorem drop3 {ps : List Pt} {m : Nat} {p0 p1 p2 : Pt} (hN : ps.length = m + 3) (h0 : ps[m]? = some p0) (h1 : ps[m + 1]? = some p1) (h2 : ps[m + 2]? = some p2) : ((ps.drop m).map (·.n)).sum = p0.n + (p1.n + p2.n) := by
 have e0 := (List.getElem?_eq_some_iff.1 h0).2
 have e1 := (List.getElem?_eq_some_iff.1 h1).2
 have e2 := (List.getElem?_eq_some_iff.1 h2).2
 rw [List.drop_eq_getElem_cons (by omega), List.drop_eq_getElem_cons (by omega), List.drop_eq_getElem_cons (by omega), List.drop_eq_nil_of_le (by omega)]
 simp only [List.map_cons, List.map_nil, List.sum_cons, List.sum_nil, e0, e1, e2]
 omega
theorem drop2 {ps : List Pt} {m : Nat} {p0 p1 : Pt} (hN : ps.length = m + 2) (h0 : ps[m]? = some p0) (h1 : ps[m + 1]? = some p1) : ((ps.drop m).map (·.n)).sum = p0.n + p1.n := by
 have e0 := (List.getElem?_eq_some_iff.1 h0).2
 have e1 := (List.getElem?_eq_some_iff.1 h1).2
 rw [List.drop_eq_getElem_cons (by omega), List.drop_eq_getElem_cons (by omega), List.drop_eq_nil_of_le (by omega)]
 simp only [List.map_cons, List.map_nil, List.sum_cons, List.sum_nil, e0, e1]
 omega
theorem sum_drop (ps : List Pt) (m : Nat) : ((ps.drop m).map (·.n)).sum ≤ (ps.map (·.n)).sum := by
 conv => rhs; rw [← List.take_append_drop m ps]
 rw [List.map_append, List.sum_append]; omega
theorem keep4 {W w w' : World} {a0 a1 a2 a3 : Addr} {v0 v1 v2 v3 : Value} (h : w.cell? a0 = some v0 ∧ w.cell? a1 = some v1 ∧ w.cell? a2 = some v2 ∧ w.cell? a3 = some v3 ∧ Below W.heap.size W w) (hb : Below w.heap.size w w') : w'.cell? a0 = some v0 ∧ w'.cell? a1 = some v1 ∧ w'.cell? a2 = some v2 ∧ w'.cell? a3 = some v3 ∧ Below W.heap.size W w' :=
 have k : ∀ {a : Addr} {v : Value}, w.cell? a = some v → w'.cell? a = some v := fun {a _v} h => (hb.cell (World.block_lt_of_cell? w a h)).trans h
 ⟨k h.1, k h.2.1, k h.2.2.1, k h.2.2.2.1, h.2.2.2.2.on hb⟩
theorem keep22 {W w w' : World} {a0 a1 : Addr} {v0 v1 : Value} (h : w.cell? a0 = some v0 ∧ w.cell? a1 = some v1 ∧ Below W.heap.size W w) (hb : Below w.heap.size w w') : w'.cell? a0 = some v0 ∧ w'.cell? a1 = some v1 ∧ Below W.heap.size W w' :=
 have k : ∀ {a : Addr} {v : Value}, w.cell? a = some v → w'.cell? a = some v := fun {a _v} h => (hb.cell (World.block_lt_of_cell? w a h)).trans h
 ⟨k h.1, k h.2.1, h.2.2.on hb⟩
theorem okW_len {ws : List Wd} {st : List Bool} (h : stB ws [] = some st) (hl : st.length ≠ 1) : okW ws = false := by
 unfold okW
 rw [h]
 cases st with
 | nil => simp
 | cons x l =>
  cases l with
  | nil => exact absurd rfl hl
  | cons y l => simp
theorem okW_one {ws : List Wd} {ps : List Pt} {n : Nat} {p : Pt} (hn : n ≤ 256) (hl : ws.length = n) (h : stB ws [] = some (ps.map (·.cmp))) (h1 : ps.length = 1) (hp : ps[0]? = some p) : okW ws = !p.cmp := by
 unfold okW
 rw [h, decide_eq_true (by omega)]
 cases ps with
 | nil => simp at h1
 | cons x l =>
  cases l with
  | nil => simp at hp; subst hp; rfl
  | cons y l => simp at h1
theorem sum_mem {ps : List Pt} {p : Pt} (h : p ∈ ps) : p.n ≤ (ps.map (·.n)).sum := by
 induction ps with
 | nil => cases h
 | cons x l ih =>
  rw [List.map_cons, List.sum_cons]
  rcases List.mem_cons.1 h with rfl | h
  · omega
  · have := ih h; omega
set_option maxHeartbeats 8000000 in
set_option maxRecDepth 100000 in
theorem parts_any (a : Option Addr) (n c : Nat) (ws : List Wd) (W : World) (h0 : SL encW 2 W a n c ws) (hn : n ≤ 256) : Calls Tryz.prog 113 #[.slice a n c] W (RetP W ws) := by
 have HL := Lib.hid h0.len
 obtain ⟨i9, hi9, hz90, hz91, hz92⟩ := info_parts info_pt
 go_enter Tryz.func113, Tryz.ntmps113
 go_wp2_with (first | (go_at_call 150; refine (infix_new _ _).mono ?_; rintro e w' ⟨rfl, rfl⟩) | (go_at_call 154; refine (call2_new _ _).mono ?_; rintro e w' ⟨rfl, rfl⟩))
 go_loopw [29] (fun i wr => ∃ (k : Nat) (v : Value) (ps : List Pt), i = .int .i64 k ∧ k ≤ n ∧ ps.length ≤ k ∧ PtW wr W.heap.size v ps k ∧ Hid (stB (ws.take k) [] = some (ps.map (·.cmp))) ∧ Below W.heap.size W wr) (fun i _ => n - (intOf i).toNat)
 case atStart => exact ⟨0, _, [], rfl, by omega, by simp, ptw_start W, Lib.hid rfl, bel_start W _ _ _ _ _ _ _ _⟩
 case round =>
  obtain ⟨k, v, ps, rfl, hk, hNk, hP, HS, hB⟩ := hrel
  have hsz := hP.six.tb.lt
  have hW0 : W.heap.size < wr.heap.size := by omega
  by_cases hlt : k < n
  rotate_left
  · obtain rfl : n = k := by omega
    have hws : ws.take n = ws := List.take_of_length_le (by rw [HL.out]; exact Nat.le_refl _)
    rw [hws] at HS
    obtain ⟨av, cv, rfl, hSL⟩ := hP.own.sl encP_len
    have c0 := hP.box.cell 0
    have c1 := hP.box.frozen 0
    simp only [List.getElem?_toArray, List.getElem?_cons_zero] at c0
    have n256 : decide ((n : Int) ≤ 256) = true := by simp; omega
    have hltv := hP.lt
    have HSL := Lib.hid hSL
    have HT := Lib.hid hP.txt
    have HSM := Lib.hid hP.sum
    obtain ⟨N, hN⟩ : ∃ N, ps.length = N := ⟨_, rfl⟩
    rw [hN] at HSL c0 hNk hltv
    have HN := Lib.hid hN
    clear hP hws hN hSL
    by_cases h1 : N = 1
    rotate_left
    · have HE : Hid (okW ws = false) := Lib.hid (okW_len HS.out (by rw [List.length_map, HN.out]; exact h1))
      have g1 : ((N : Int) == 1) = false := by simp; omega
      clear h1 hltv
      go_wp2_with fail
      refine wp_region_held_drew (S := fun w' => w'.cell? ⟨W.heap.size, 0, none⟩ = some (.slice av N cv)) (by kernel_rfl) c0 (fun hS => ?_)
      refine wpAnyH_take (i := 0) (v := ?_) rfl (by kernel_rfl) (by kernel_rfl) (by kernel_rfl) (fun _ _ _ h => h) (Or.inl ⟨by rfl, ?_⟩) (by assumption) ?_
      rotate_left
      focus
       intro w hSw
       (try dsimp only at hSw)
       (try go_split_ands)
       go_simp
       try with_reducible rfl
      (try simp only [Act.put, l_t, l_z, s_t, s_z, s_s])
      refine wpAnyH_take (i := 1) (v := ?_) rfl (by kernel_rfl) (by kernel_rfl) (by kernel_rfl) (fun _ _ _ h => h) (Or.inl ⟨by rfl, ?_⟩) (by assumption) ?_
      rotate_left
      focus
       intro w hSw
       (try dsimp only at hSw)
       (try go_split_ands)
       go_simp
       try with_reducible rfl
      (try simp only [Act.put, l_t, l_s, l_z, s_t, s_z, s_s])
      refine wpAnyH_take (i := 2) (v := ?_) rfl (by kernel_rfl) (by kernel_rfl) (by kernel_rfl) (fun _ _ _ h => h) (Or.inl ⟨by rfl, ?_⟩) (by assumption) ?_
      rotate_left
      focus
       intro w hSw
       (try dsimp only at hSw)
       (try go_split_ands)
       go_simp
       try with_reducible rfl
      (try simp only [Act.put, l_t, l_s, l_z, s_t, s_z, s_s])
      refine wpAnyH_take (i := 3) (v := ?_) rfl (by kernel_rfl) (by kernel_rfl) (by kernel_rfl) (fun _ _ _ h => h) (Or.inl ⟨by rfl, ?_⟩) (by assumption) ?_
      rotate_left
      focus
       intro w hSw
       (try dsimp only at hSw)
       (try go_split_ands)
       go_simp
       try with_reducible rfl
      (try simp only [Act.put, l_t, l_s, l_z, s_t, s_z, s_s])
      refine wpAnyH_take (i := 4) (v := ?_) rfl (by kernel_rfl) (by kernel_rfl) (by kernel_rfl) (fun _ _ _ h => h) (Or.inl ⟨by rfl, ?_⟩) (by assumption) ?_
      rotate_left
      focus
       intro w hSw
       (try dsimp only at hSw)
       (try go_split_ands)
       go_simp
       try with_reducible rfl
      (try simp only [Act.put, l_t, l_s, l_z, s_t, s_z, s_s])
      refine wpAnyH_take (i := 5) (v := ?_) rfl (by kernel_rfl) (by kernel_rfl) (by kernel_rfl) (fun _ _ _ h => h) (Or.inl ⟨by rfl, ?_⟩) (by assumption) ?_
      rotate_left
      focus
       intro w hSw
       (try dsimp only at hSw)
       (try go_split_ands)
       go_simp
       try with_reducible rfl
      (try simp only [Act.put, l_t, l_s, l_z, s_t, s_z, s_s])
      refine wpAnyH_take (i := 6) (v := ?_) rfl (by kernel_rfl) (by kernel_rfl) (by kernel_rfl) (fun _ _ _ h => h) (Or.inl ⟨by rfl, ?_⟩) (by assumption) ?_
      rotate_left
      focus
       intro w hSw
       (try dsimp only at hSw)
       (try go_split_ands)
       go_simp
       try with_reducible rfl
      (try simp only [Act.put, l_t, l_s, l_z, s_t, s_z, s_s])
      refine wpAnyH_take (i := 7) (v := ?_) rfl (by kernel_rfl) (by kernel_rfl) (by kernel_rfl) (fun _ _ _ h => h) (Or.inl ⟨by rfl, ?_⟩) (by assumption) ?_
      rotate_left
      focus
       intro w hSw
       (try dsimp only at hSw)
       (try go_split_ands)
       go_simp
       try with_reducible rfl
      (try simp only [Act.put, l_t, l_s, l_z, s_t, s_z, s_s])
      refine wpAnyH_take (i := 8) (v := ?_) rfl (by kernel_rfl) (by kernel_rfl) (by kernel_rfl) (fun _ _ _ h => h) (Or.inl ⟨by rfl, ?_⟩) (by assumption) ?_
      rotate_left
      focus
       intro w hSw
       (try dsimp only at hSw)
       (try go_split_ands)
       go_simp
       try with_reducible rfl
      (try simp only [Act.put, l_t, l_s, l_z, s_t, s_z, s_s])
      refine wpAnyH_take (i := 9) (v := ?_) rfl (by kernel_rfl) (by kernel_rfl) (by kernel_rfl) (fun _ _ _ h => h) (Or.inl ⟨by rfl, ?_⟩) (by assumption) ?_
      rotate_left
      focus
       intro w hSw
       (try dsimp only at hSw)
       (try go_split_ands)
       go_simp
       try with_reducible rfl
      (try simp only [Act.put, l_t, l_s, l_z, s_t, s_z, s_s])
      refine wpAnyH_take (i := 10) (v := undef) rfl (by kernel_rfl) (by kernel_rfl) (by kernel_rfl) (fun _ _ _ h => h) (Or.inr ⟨by rfl, rfl⟩) (by assumption) ?_
      (try simp only [Act.put, l_t, l_s, l_z, s_t, s_z, s_s])
      refine wpAnyH_take (i := 11) (v := undef) rfl (by kernel_rfl) (by kernel_rfl) (by kernel_rfl) (fun _ _ _ h => h) (Or.inr ⟨by rfl, rfl⟩) (by assumption) ?_
      (try simp only [Act.put, l_t, l_s, l_z, s_t, s_z, s_s])
      refine wpAnyH_take (i := 12) (v := undef) rfl (by kernel_rfl) (by kernel_rfl) (by kernel_rfl) (fun _ _ _ h => h) (Or.inr ⟨by rfl, rfl⟩) (by assumption) ?_
      (try simp only [Act.put, l_t, l_s, l_z, s_t, s_z, s_s])
      refine wpAnyH_take (i := 13) (v := undef) rfl (by kernel_rfl) (by kernel_rfl) (by kernel_rfl) (fun _ _ _ h => h) (Or.inr ⟨by rfl, rfl⟩) (by assumption) ?_
      (try simp only [Act.put, l_t, l_s, l_z, s_t, s_z, s_s])
      refine wpAnyH_take (i := 14) (v := undef) rfl (by kernel_rfl) (by kernel_rfl) (by kernel_rfl) (fun _ _ _ h => h) (Or.inr ⟨by rfl, rfl⟩) (by assumption) ?_
      (try simp only [Act.put, l_t, l_s, l_z, s_t, s_z, s_s])
      refine wpAnyH_take (i := 15) (v := ?_) rfl (by kernel_rfl) (by kernel_rfl) (by kernel_rfl) (fun _ _ _ h => h) (Or.inl ⟨by rfl, ?_⟩) (by assumption) ?_
      rotate_left
      focus
       intro w hSw
       (try dsimp only at hSw)
       (try go_split_ands)
       go_simp
       try with_reducible rfl
      (try simp only [Act.put, l_t, l_s, l_z, s_t, s_z, s_s])
      refine wpAnyH_ready (rs := [16]) (by kernel_rfl) (by simp) (AllReadyH.cons rfl (fun K hK => ?_) AllReadyH.nil)
      go_simp
      refine hK.out _ _ (set_same c0 _) (fun hS => ?_)
      clear hK K
      (try simp only [Act.put, l_t, l_s, l_z, s_t, s_z, s_s])
      refine wpAnyH_take (i := 17) (v := ?_) rfl (by kernel_rfl) (by kernel_rfl) (by kernel_rfl) (fun _ _ _ h => h) (Or.inl ⟨by rfl, ?_⟩) (by assumption) ?_
      rotate_left
      focus
       intro w hSw
       (try dsimp only at hSw)
       (try go_split_ands)
       go_simp
       try with_reducible rfl
      (try simp only [Act.put, l_t, l_s, l_z, s_t, s_z, s_s])
      refine wpAnyH_done (by kernel_rfl) ?_ _
      go_wp2_with fail
      refine bodyPost_ret (v := .tuple #[.slice av N cv, .bool false]) (by simp [results, Tryz.results113, go_sem, hS]) rfl ?_
      exact ⟨_, by rw [HE.out], ((Below.on hB (Below.refl _ _).drew).setCell (Nat.le_refl _) _), fun h2 => by rw [HE.out] at h2; cases h2⟩
    subst h1
    obtain ⟨g, o, rfl, hgl⟩ := HSL.out.at' (by omega)
    obtain ⟨p0, hp0⟩ := HSL.out.get (i := 0) (by omega)
    obtain ⟨r0, r1⟩ := HSL.out.p2 hp0
    simp only [Nat.zero_mul, Nat.add_zero] at r0 r1
    have hgW : ¬ W.heap.size = g := fun e => by have := (hltv g rfl).1; omega
    have HPT := Lib.hid (HT.out p0 (List.mem_of_getElem? hp0))
    have HOK : Hid (okW ws = !p0.cmp) := Lib.hid (okW_one hn HL.out HS.out HN.out hp0)
    have HNP : Hid (p0.n ≤ 1280) := Lib.hid (by have h1 := sum_mem (List.mem_of_getElem? hp0); have h2 := HSM.out; omega)
    have HR0 := Lib.hid r0
    clear hltv hp0 r0
    cases hcm : p0.cmp
    · rw [hcm] at r1 HOK
      clear hcm
      go_wp2_with fail
      refine wp_region_held_drew (S := fun w' => w'.cell? ⟨W.heap.size, 0, none⟩ = some (.slice (some ⟨g, o, none⟩) 1 cv) ∧ w'.cell? ⟨g, o + 1, none⟩ = some (.bool false)) (by kernel_rfl) ⟨c0, r1⟩ (fun hS => ?_)
      refine wpAnyH_take (i := 0) (v := ?_) rfl (by kernel_rfl) (by kernel_rfl) (by kernel_rfl) (fun _ _ _ h => h) (Or.inl ⟨by rfl, ?_⟩) (by assumption) ?_
      rotate_left
      focus
       intro w hSw
       (try dsimp only at hSw)
       (try go_split_ands)
       go_simp
       try with_reducible rfl
      (try simp only [Act.put, l_t, l_z, s_t, s_z, s_s])
      refine wpAnyH_take (i := 1) (v := ?_) rfl (by kernel_rfl) (by kernel_rfl) (by kernel_rfl) (fun _ _ _ h => h) (Or.inl ⟨by rfl, ?_⟩) (by assumption) ?_
      rotate_left
      focus
       intro w hSw
       (try dsimp only at hSw)
       (try go_split_ands)
       go_simp
       try with_reducible rfl
      (try simp only [Act.put, l_t, l_s, l_z, s_t, s_z, s_s])
      refine wpAnyH_take (i := 2) (v := ?_) rfl (by kernel_rfl) (by kernel_rfl) (by kernel_rfl) (fun _ _ _ h => h) (Or.inl ⟨by rfl, ?_⟩) (by assumption) ?_
      rotate_left
      focus
       intro w hSw
       (try dsimp only at hSw)
       (try go_split_ands)
       go_simp
       try with_reducible rfl
      (try simp only [Act.put, l_t, l_s, l_z, s_t, s_z, s_s])
      refine wpAnyH_take (i := 3) (v := ?_) rfl (by kernel_rfl) (by kernel_rfl) (by kernel_rfl) (fun _ _ _ h => h) (Or.inl ⟨by rfl, ?_⟩) (by assumption) ?_
      rotate_left
      focus
       intro w hSw
       (try dsimp only at hSw)
       (try go_split_ands)
       go_simp
       try with_reducible rfl
      (try simp only [Act.put, l_t, l_s, l_z, s_t, s_z, s_s])
      refine wpAnyH_take (i := 4) (v := ?_) rfl (by kernel_rfl) (by kernel_rfl) (by kernel_rfl) (fun _ _ _ h => h) (Or.inl ⟨by rfl, ?_⟩) (by assumption) ?_
      rotate_left
      focus
       intro w hSw
       (try dsimp only at hSw)
       (try go_split_ands)
       go_simp
       try with_reducible rfl
      (try simp only [Act.put, l_t, l_s, l_z, s_t, s_z, s_s])
      refine wpAnyH_take (i := 5) (v := ?_) rfl (by kernel_rfl) (by kernel_rfl) (by kernel_rfl) (fun _ _ _ h => h) (Or.inl ⟨by rfl, ?_⟩) (by assumption) ?_
      rotate_left
      focus
       intro w hSw
       (try dsimp only at hSw)
       (try go_split_ands)
       go_simp
       try with_reducible rfl
      (try simp only [Act.put, l_t, l_s, l_z, s_t, s_z, s_s])
      refine wpAnyH_take (i := 6) (v := ?_) rfl (by kernel_rfl) (by kernel_rfl) (by kernel_rfl) (fun _ _ _ h => h) (Or.inl ⟨by rfl, ?_⟩) (by assumption) ?_
      rotate_left
      focus
       intro w hSw
       (try dsimp only at hSw)
       (try go_split_ands)
       go_simp
       try with_reducible rfl
      (try simp only [Act.put, l_t, l_s, l_z, s_t, s_z, s_s])
      refine wpAnyH_take (i := 7) (v := ?_) rfl (by kernel_rfl) (by kernel_rfl) (by kernel_rfl) (fun _ _ _ h => h) (Or.inl ⟨by rfl, ?_⟩) (by assumption) ?_
      rotate_left
      focus
       intro w hSw
       (try dsimp only at hSw)
       (try go_split_ands)
       go_simp
       try with_reducible rfl
      (try simp only [Act.put, l_t, l_s, l_z, s_t, s_z, s_s])
      refine wpAnyH_take (i := 8) (v := ?_) rfl (by kernel_rfl) (by kernel_rfl) (by kernel_rfl) (fun _ _ _ h => h) (Or.inl ⟨by rfl, ?_⟩) (by assumption) ?_
      rotate_left
      focus
       intro w hSw
       (try dsimp only at hSw)
       (try go_split_ands)
       go_simp
       try with_reducible rfl
      (try simp only [Act.put, l_t, l_s, l_z, s_t, s_z, s_s])
      refine wpAnyH_take (i := 9) (v := ?_) rfl (by kernel_rfl) (by kernel_rfl) (by kernel_rfl) (fun _ _ _ h => h) (Or.inl ⟨by rfl, ?_⟩) (by assumption) ?_
      rotate_left
      focus
       intro w hSw
       (try dsimp only at hSw)
       (try go_split_ands)
       go_simp
       try with_reducible rfl
      (try simp only [Act.put, l_t, l_s, l_z, s_t, s_z, s_s])
      refine wpAnyH_take (i := 10) (v := ?_) rfl (by kernel_rfl) (by kernel_rfl) (by kernel_rfl) (fun _ _ _ h => h) (Or.inl ⟨by rfl, ?_⟩) (by assumption) ?_
      rotate_left
      focus
       intro w hSw
       (try dsimp only at hSw)
       (try go_split_ands)
       go_simp
       try with_reducible rfl
      (try simp only [Act.put, l_t, l_s, l_z, s_t, s_z, s_s])
      refine wpAnyH_take (i := 11) (v := ?_) rfl (by kernel_rfl) (by kernel_rfl) (by kernel_rfl) (fun _ _ _ h => h) (Or.inl ⟨by rfl, ?_⟩) (by assumption) ?_
      rotate_left
      focus
       intro w hSw
       (try dsimp only at hSw)
       (try go_split_ands)
       go_simp
       try with_reducible rfl
      (try simp only [Act.put, l_t, l_s, l_z, s_t, s_z, s_s])
      refine wpAnyH_take (i := 12) (v := ?_) rfl (by kernel_rfl) (by kernel_rfl) (by kernel_rfl) (fun _ _ _ h => h) (Or.inl ⟨by rfl, ?_⟩) (by assumption) ?_
      rotate_left
      focus
       intro w hSw
       (try dsimp only at hSw)
       (try go_split_ands)
       go_simp
       try with_reducible rfl
      (try simp only [Act.put, l_t, l_s, l_z, s_t, s_z, s_s])
      refine wpAnyH_take (i := 13) (v := ?_) rfl (by kernel_rfl) (by kernel_rfl) (by kernel_rfl) (fun _ _ _ h => h) (Or.inl ⟨by rfl, ?_⟩) (by assumption) ?_
      rotate_left
      focus
       intro w hSw
       (try dsimp only at hSw)
       (try go_split_ands)
       go_simp
       try with_reducible rfl
      (try simp only [Act.put, l_t, l_s, l_z, s_t, s_z, s_s])
      refine wpAnyH_take (i := 14) (v := ?_) rfl (by kernel_rfl) (by kernel_rfl) (by kernel_rfl) (fun _ _ _ h => h) (Or.inl ⟨by rfl, ?_⟩) (by assumption) ?_
      rotate_left
      focus
       intro w hSw
       (try dsimp only at hSw)
       (try go_split_ands)
       go_simp
       try with_reducible rfl
      (try simp only [Act.put, l_t, l_s, l_z, s_t, s_z, s_s])
      refine wpAnyH_take (i := 15) (v := ?_) rfl (by kernel_rfl) (by kernel_rfl) (by kernel_rfl) (fun _ _ _ h => h) (Or.inl ⟨by rfl, ?_⟩) (by assumption) ?_
      rotate_left
      focus
       intro w hSw
       (try dsimp only at hSw)
       (try go_split_ands)
       go_simp
       try with_reducible rfl
      (try simp only [Act.put, l_t, l_s, l_z, s_t, s_z, s_s])
      refine wpAnyH_ready (rs := [16]) (by kernel_rfl) (by simp) (AllReadyH.cons rfl (fun K hK => ?_) AllReadyH.nil)
      go_simp
      refine hK.out _ _ (⟨set_same c0 _, (World.cell?_setCell_other _ _ _ _ (by intro e; injection e with e _; exact hgW e)).trans r1⟩) (fun hS => ?_)
      clear hK K
      (try simp only [Act.put, l_t, l_s, l_z, s_t, s_z, s_s])
      refine wpAnyH_take (i := 17) (v := ?_) rfl (by kernel_rfl) (by kernel_rfl) (by kernel_rfl) (fun _ _ _ h => h) (Or.inl ⟨by rfl, ?_⟩) (by assumption) ?_
      rotate_left
      focus
       intro w hSw
       (try dsimp only at hSw)
       (try go_split_ands)
       go_simp
       try with_reducible rfl
      (try simp only [Act.put, l_t, l_s, l_z, s_t, s_z, s_s])
      refine wpAnyH_done (by kernel_rfl) ?_ _
      go_wp2_with fail
      have cs := hS.1
      refine bodyPost_ret (v := .tuple #[.slice (some ⟨g, o, none⟩) 1 cv, .bool true]) (by simp [results, Tryz.results113, go_sem, cs]) rfl ?_
      refine ⟨_, by rw [HOK.out]; rfl, ((Below.on hB (Below.refl _ _).drew).setCell (Nat.le_refl _) _), fun _ => ⟨g, o, cv, p0, rfl, ?_, ?_, HPT.out.ok, HNP.out⟩⟩
      · exact (World.cell?_setCell_other _ _ _ _ (by intro e; injection e with e _; exact hgW e)).trans HR0.out
      · exact (HPT.out.sl.drewN 1).setOther _ (fun hn => by
         obtain ⟨b, o', e, h1, _⟩ := HPT.out.at' hn
         rw [e]; show some b ≠ some W.heap.size; intro e2; injection e2 with e2; omega)
    · rw [hcm] at r1 HOK
      clear hcm
      go_wp2_with fail
      refine wp_region_held_drew (S := fun w' => w'.cell? ⟨W.heap.size, 0, none⟩ = some (.slice (some ⟨g, o, none⟩) 1 cv) ∧ w'.cell? ⟨g, o + 1, none⟩ = some (.bool true)) (by kernel_rfl) ⟨c0, r1⟩ (fun hS => ?_)
      refine wpAnyH_take (i := 0) (v := ?_) rfl (by kernel_rfl) (by kernel_rfl) (by kernel_rfl) (fun _ _ _ h => h) (Or.inl ⟨by rfl, ?_⟩) (by assumption) ?_
      rotate_left
      focus
       intro w hSw
       (try dsimp only at hSw)
       (try go_split_ands)
       go_simp
       try with_reducible rfl
      (try simp only [Act.put, l_t, l_z, s_t, s_z, s_s])
      refine wpAnyH_take (i := 1) (v := ?_) rfl (by kernel_rfl) (by kernel_rfl) (by kernel_rfl) (fun _ _ _ h => h) (Or.inl ⟨by rfl, ?_⟩) (by assumption) ?_
      rotate_left
      focus
       intro w hSw
       (try dsimp only at hSw)
       (try go_split_ands)
       go_simp
       try with_reducible rfl
      (try simp only [Act.put, l_t, l_s, l_z, s_t, s_z, s_s])
      refine wpAnyH_take (i := 2) (v := ?_) rfl (by kernel_rfl) (by kernel_rfl) (by kernel_rfl) (fun _ _ _ h => h) (Or.inl ⟨by rfl, ?_⟩) (by assumption) ?_
      rotate_left
      focus
       intro w hSw
       (try dsimp only at hSw)
       (try go_split_ands)
       go_simp
       try with_reducible rfl
      (try simp only [Act.put, l_t, l_s, l_z, s_t, s_z, s_s])
      refine wpAnyH_take (i := 3) (v := ?_) rfl (by kernel_rfl) (by kernel_rfl) (by kernel_rfl) (fun _ _ _ h => h) (Or.inl ⟨by rfl, ?_⟩) (by assumption) ?_
      rotate_left
      focus
       intro w hSw
       (try dsimp only at hSw)
       (try go_split_ands)
       go_simp
       try with_reducible rfl
      (try simp only [Act.put, l_t, l_s, l_z, s_t, s_z, s_s])
      refine wpAnyH_take (i := 4) (v := ?_) rfl (by kernel_rfl) (by kernel_rfl) (by kernel_rfl) (fun _ _ _ h => h) (Or.inl ⟨by rfl, ?_⟩) (by assumption) ?_
      rotate_left
      focus
       intro w hSw
       (try dsimp only at hSw)
       (try go_split_ands)
       go_simp
       try with_reducible rfl
      (try simp only [Act.put, l_t, l_s, l_z, s_t, s_z, s_s])
      refine wpAnyH_take (i := 5) (v := ?_) rfl (by kernel_rfl) (by kernel_rfl) (by kernel_rfl) (fun _ _ _ h => h) (Or.inl ⟨by rfl, ?_⟩) (by assumption) ?_
      rotate_left
      focus
       intro w hSw
       (try dsimp only at hSw)
       (try go_split_ands)
       go_simp
       try with_reducible rfl
      (try simp only [Act.put, l_t, l_s, l_z, s_t, s_z, s_s])
      refine wpAnyH_take (i := 6) (v := ?_) rfl (by kernel_rfl) (by kernel_rfl) (by kernel_rfl) (fun _ _ _ h => h) (Or.inl ⟨by rfl, ?_⟩) (by assumption) ?_
      rotate_left
      focus
       intro w hSw
       (try dsimp only at hSw)
       (try go_split_ands)
       go_simp
       try with_reducible rfl
      (try simp only [Act.put, l_t, l_s, l_z, s_t, s_z, s_s])
      refine wpAnyH_take (i := 7) (v := ?_) rfl (by kernel_rfl) (by kernel_rfl) (by kernel_rfl) (fun _ _ _ h => h) (Or.inl ⟨by rfl, ?_⟩) (by assumption) ?_
      rotate_left
      focus
       intro w hSw
       (try dsimp only at hSw)
       (try go_split_ands)
       go_simp
       try with_reducible rfl
      (try simp only [Act.put, l_t, l_s, l_z, s_t, s_z, s_s])
      refine wpAnyH_take (i := 8) (v := ?_) rfl (by kernel_rfl) (by kernel_rfl) (by kernel_rfl) (fun _ _ _ h => h) (Or.inl ⟨by rfl, ?_⟩) (by assumption) ?_
      rotate_left
      focus
       intro w hSw
       (try dsimp only at hSw)
       (try go_split_ands)
       go_simp
       try with_reducible rfl
      (try simp only [Act.put, l_t, l_s, l_z, s_t, s_z, s_s])
      refine wpAnyH_take (i := 9) (v := ?_) rfl (by kernel_rfl) (by kernel_rfl) (by kernel_rfl) (fun _ _ _ h => h) (Or.inl ⟨by rfl, ?_⟩) (by assumption) ?_
      rotate_left
      focus
       intro w hSw
       (try dsimp only at hSw)
       (try go_split_ands)
       go_simp
       try with_reducible rfl
      (try simp only [Act.put, l_t, l_s, l_z, s_t, s_z, s_s])
      refine wpAnyH_take (i := 10) (v := ?_) rfl (by kernel_rfl) (by kernel_rfl) (by kernel_rfl) (fun _ _ _ h => h) (Or.inl ⟨by rfl, ?_⟩) (by assumption) ?_
      rotate_left
      focus
       intro w hSw
       (try dsimp only at hSw)
       (try go_split_ands)
       go_simp
       try with_reducible rfl
      (try simp only [Act.put, l_t, l_s, l_z, s_t, s_z, s_s])
      refine wpAnyH_take (i := 11) (v := ?_) rfl (by kernel_rfl) (by kernel_rfl) (by kernel_rfl) (fun _ _ _ h => h) (Or.inl ⟨by rfl, ?_⟩) (by assumption) ?_
      rotate_left
      focus
       intro w hSw
       (try dsimp only at hSw)
       (try go_split_ands)
       go_simp
       try with_reducible rfl
      (try simp only [Act.put, l_t, l_s, l_z, s_t, s_z, s_s])
      refine wpAnyH_take (i := 12) (v := ?_) rfl (by kernel_rfl) (by kernel_rfl) (by kernel_rfl) (fun _ _ _ h => h) (Or.inl ⟨by rfl, ?_⟩) (by assumption) ?_
      rotate_left
      focus
       intro w hSw
       (try dsimp only at hSw)
       (try go_split_ands)
       go_simp
       try with_reducible rfl
      (try simp only [Act.put, l_t, l_s, l_z, s_t, s_z, s_s])
      refine wpAnyH_take (i := 13) (v := ?_) rfl (by kernel_rfl) (by kernel_rfl) (by kernel_rfl) (fun _ _ _ h => h) (Or.inl ⟨by rfl, ?_⟩) (by assumption) ?_
      rotate_left
      focus
       intro w hSw
       (try dsimp only at hSw)
       (try go_split_ands)
       go_simp
       try with_reducible rfl
      (try simp only [Act.put, l_t, l_s, l_z, s_t, s_z, s_s])
      refine wpAnyH_take (i := 14) (v := ?_) rfl (by kernel_rfl) (by kernel_rfl) (by kernel_rfl) (fun _ _ _ h => h) (Or.inl ⟨by rfl, ?_⟩) (by assumption) ?_
      rotate_left
      focus
       intro w hSw
       (try dsimp only at hSw)
       (try go_split_ands)
       go_simp
       try with_reducible rfl
      (try simp only [Act.put, l_t, l_s, l_z, s_t, s_z, s_s])
      refine wpAnyH_take (i := 15) (v := ?_) rfl (by kernel_rfl) (by kernel_rfl) (by kernel_rfl) (fun _ _ _ h => h) (Or.inl ⟨by rfl, ?_⟩) (by assumption) ?_
      rotate_left
      focus
       intro w hSw
       (try dsimp only at hSw)
       (try go_split_ands)
       go_simp
       try with_reducible rfl
      (try simp only [Act.put, l_t, l_s, l_z, s_t, s_z, s_s])
      refine wpAnyH_ready (rs := [16]) (by kernel_rfl) (by simp) (AllReadyH.cons rfl (fun K hK => ?_) AllReadyH.nil)
      go_simp
      refine hK.out _ _ (⟨set_same c0 _, (World.cell?_setCell_other _ _ _ _ (by intro e; injection e with e _; exact hgW e)).trans r1⟩) (fun hS => ?_)
      clear hK K
      (try simp only [Act.put, l_t, l_s, l_z, s_t, s_z, s_s])
      refine wpAnyH_take (i := 17) (v := ?_) rfl (by kernel_rfl) (by kernel_rfl) (by kernel_rfl) (fun _ _ _ h => h) (Or.inl ⟨by rfl, ?_⟩) (by assumption) ?_
      rotate_left
      focus
       intro w hSw
       (try dsimp only at hSw)
       (try go_split_ands)
       go_simp
       try with_reducible rfl
      (try simp only [Act.put, l_t, l_s, l_z, s_t, s_z, s_s])
      refine wpAnyH_done (by kernel_rfl) ?_ _
      go_wp2_with fail
      have cs := hS.1
      refine bodyPost_ret (v := .tuple #[.slice (some ⟨g, o, none⟩) 1 cv, .bool false]) (by simp [results, Tryz.results113, go_sem, cs]) rfl ?_
      exact ⟨_, by rw [HOK.out]; rfl, ((Below.on hB (Below.refl _ _).drew).setCell (Nat.le_refl _) _), fun h2 => by rw [HOK.out] at h2; cases h2⟩
  obtain ⟨b0, o0, rfl, hb0⟩ := h0.at' (by omega)
  obtain ⟨x, hX⟩ := h0.get hlt
  obtain ⟨op, nn⟩ := x
  obtain ⟨e0, e1⟩ := (h0.below hB).w2 hX
  have HX := Lib.hid hX
  have s0 : (0 : Int) ≤ (k : Int) := by omega
  have s1 : (k : Int) < (n : Int) := by omega
  obtain ⟨av, cv, rfl, hSL⟩ := hP.own.sl encP_len
  have hfx := fx_of hP op nn
  have hbx := al0 wr #[.int .i64 op, .int .i64 nn] 91
  obtain ⟨wx, hwx⟩ : ∃ wx, wr.alloc (.cells #[.int .i64 op, .int .i64 nn] 91) = wx := ⟨_, rfl⟩
  rw [hwx] at hfx hbx
  have hPx := hP.below hbx
  have HPR := Lib.hid hP
  have HBR := Lib.hid hB
  have HBX := Lib.hid hbx
  have HWX := Lib.hid hwx
  have HP := Lib.hid hPx
  have HB : Hid (Below W.heap.size W wx) := Lib.hid (hB.on hbx)
  have hSx := hSL.below hbx
  have HSL := Lib.hid hSx
  have c0 := hP.box.cell 0
  have c1 := hP.box.frozen 0
  simp only [List.getElem?_toArray, List.getElem?_cons_zero] at c0
  clear hX hP hPx hB hSL hwx hSx hbx
  obtain ⟨N, hN⟩ : ∃ N, ps.length = N := ⟨_, rfl⟩
  rw [hN] at HP HSL HPR c0 hfx hNk
  have HN := Lib.hid hN
  clear hN
  have HFX := Lib.hid hfx
  clear hfx
  by_cases hsmall : op < 3 ∨ 10 < op
  · by_cases h1 : op = 1
    · subst h1
      clear hsmall
      by_cases h2 : 0 ≤ nn
      · by_cases h3 : nn ≤ 1048576
        · have g1 : decide (0 ≤ nn) = true := by simpa using h2
          have g2 : decide (nn ≤ 1048576) = true := by simpa using h3
          have hown0 : wr.ownsRow (W.heap.size + 8) 199 2 (.slice av N cv) N ((ps.take N).flatMap encP) := own_take encP_len HPR.out.own (by rw [HN.out]; exact Nat.le_refl _)
          have HO := Lib.hid hown0
          have HST : Hid (∀ p : Pt, p.cmp = false → stB (ws.take (k + 1)) [] = some ((ps.take N ++ [p]).map (·.cmp))) := Lib.hid fun p hp => st_put HX.out HS.out (by rw [hp]; exact push_one (by rw [List.length_map, HN.out]) (.inl ⟨rfl, h2, h3⟩))
          have HNN : Hid (0 ≤ nn ∧ nn ≤ 1048576) := Lib.hid ⟨h2, h3⟩
          clear hown0 h2 h3
          as_aux_lemma =>
           go_wp2_with ((at_builtin; refine wpList_append_own2 _ rfl _ _ 193 rfl (W.heap.size + 8) 199 i9 _ 2 32 Tryz.underlying193 hi9 hz90 hz91 hz92 rfl (by decide) _ _ _ (((HO.out.alloc _).alloc _).alloc _) rfl ⟨_, 0, none⟩ 1 1 [.slice (some ⟨wr.heap.size + 1, 0, none⟩) 1 1, .bool false] rfl rfl (news2 _ _ _ _ _ (by first | rfl | simp)) (by simp [Value.oneCell']) (by unfold maxLen; omega) (by omega) (by first | omega | (simp; omega)) ?_; intro v' w8 hown' hgrow hfr; obtain ⟨av', cv', rfl, _, _⟩ := own_slice hown'; obtain ⟨cq, fq, lq⟩ := PtW.far (((HPR.out.below (al0 _ _ _)).below (al0 _ _ _)).below (al0 _ _ _)) hgrow))
           go_roundw
           case rel =>
            have hT : PtT (((wr.alloc (.cells #[.int .i64 1, .int .i64 nn] 91)).alloc (.cells #[.int .i64 2, .string ⟨#[]⟩, .int .i64 nn, .int .i64 0] 251)).alloc (.cells #[.slice (some ⟨wr.heap.size + 1, 0, none⟩) 1 1, .bool false] 199)) W.heap.size (.slice av N cv) ⟨some ⟨wr.heap.size + 1, 0, none⟩, 1, 1, [⟨2, ⟨#[]⟩, nn, 0⟩], false⟩ := by
             have h1 := sl_one (wr.alloc (.cells #[.int .i64 1, .int .i64 nn] 91)) ⟨2, ⟨#[]⟩, nn, 0⟩ 251
             rw [World.size_alloc] at h1
             exact ptT_new HPR.out (h1.below (al0 _ _ _)) (ok_one (.num HNN.out.1 HNN.out.2)) (fun _ => ⟨_, _, rfl, by omega⟩)
            have hY := (((HPR.out.below (al0 _ #[.int .i64 1, .int .i64 nn] 91)).below (al0 _ #[.int .i64 2, .string ⟨#[]⟩, .int .i64 nn, .int .i64 0] 251)).below (al0 _ #[.slice (some ⟨wr.heap.size + 1, 0, none⟩) 1 1, .bool false] 199))
            have hBY : Below W.heap.size W _ := ((HBR.out.on (al0 wr #[.int .i64 1, .int .i64 nn] 91)).on (al0 _ #[.int .i64 2, .string ⟨#[]⟩, .int .i64 nn, .int .i64 0] 251)).on (al0 _ #[.slice (some ⟨wr.heap.size + 1, 0, none⟩) 1 1, .bool false] 199)
            exact ⟨k + 1, _, ps.take N ++ [_], by go_num, by omega, len_put HN.out hNk, hY.put hT (by rw [HN.out]; exact Nat.le_refl _) (sum_put HPR.out.sum (by simp)) hown' hgrow hfr, Lib.hid (HST.out _ rfl), (hBY.grown hgrow hBY.size (fun b e => by have := (hY.lt b e).1; omega)).setCell (Nat.le_refl _) _⟩
           case measure => simp [intOf]; omega
        · have g1 : decide (0 ≤ nn) = true := by simpa using h2
          have g2 : decide (nn ≤ 1048576) = false := by simpa using h3
          have HE : Hid (okW ws = false) := Lib.hid (okW_no HX.out HS.out (pushB_none (by simp; omega) (by simp) (by simp) (by simp)))
          clear h2 h3
          as_aux_lemma =>
           go_wp2_with fail
           rw [HWX.out]
           obtain ⟨c, f, d0, d1, lt⟩ := HFX.out
           clear c0 c1
           go_quiet (fail)
           go_wp2_with fail
           have cs := fun q => set_same (w := wx.drewN q) (p := ⟨W.heap.size, 0, none⟩) c (.slice none 0 0)
           refine bodyPost_ret (v := .tuple #[.slice none 0 0, .bool false]) (by simp [results, Tryz.results113, go_sem, cs]) rfl (retP_no HE.out ?_ rfl)
           exact ((HB.out.on (Below.drewN0 _ _)).setCell (Nat.le_refl _) _)
      · have g1 : decide (0 ≤ nn) = false := by simpa using h2
        have HE : Hid (okW ws = false) := Lib.hid (okW_no HX.out HS.out (pushB_none (by simp; omega) (by simp) (by simp) (by simp)))
        clear h2
        as_aux_lemma =>
         go_wp2_with fail
         rw [HWX.out]
         obtain ⟨c, f, d0, d1, lt⟩ := HFX.out
         clear c0 c1
         go_quiet (fail)
         go_wp2_with fail
         have cs := fun q => set_same (w := wx.drewN q) (p := ⟨W.heap.size, 0, none⟩) c (.slice none 0 0)
         refine bodyPost_ret (v := .tuple #[.slice none 0 0, .bool false]) (by simp [results, Tryz.results113, go_sem, cs]) rfl (retP_no HE.out ?_ rfl)
         exact ((HB.out.on (Below.drewN0 _ _)).setCell (Nat.le_refl _) _)
    by_cases h2 : op = 2
    · subst h2
      clear hsmall h1
      by_cases h2 : 0 ≤ nn
      rotate_left
      · have g1 : decide (0 ≤ nn) = false := by simpa using h2
        have HE : Hid (okW ws = false) := Lib.hid (okW_no HX.out HS.out (pushB_none (by simp) (by simp; omega) (by simp) (by simp)))
        clear h2
        as_aux_lemma =>
         go_wp2_with fail
         rw [HWX.out]
         obtain ⟨c, f, d0, d1, lt⟩ := HFX.out
         clear c0 c1
         go_quiet (fail)
         go_wp2_with fail
         have cs := fun q => set_same (w := wx.drewN q) (p := ⟨W.heap.size, 0, none⟩) c (.slice none 0 0)
         refine bodyPost_ret (v := .tuple #[.slice none 0 0, .bool false]) (by simp [results, Tryz.results113, go_sem, cs]) rfl (retP_no HE.out ?_ rfl)
         exact ((HB.out.on (Below.drewN0 _ _)).setCell (Nat.le_refl _) _)
      by_cases h3 : nn < 5
      rotate_left
      · have g1 : decide (0 ≤ nn) = true := by simpa using h2
        have g2 : decide (nn < 5) = false := by simpa using h3
        have HE : Hid (okW ws = false) := Lib.hid (okW_no HX.out HS.out (pushB_none (by simp) (by simp; omega) (by simp) (by simp)))
        clear h2 h3
        go_wp2_with fail
        rw [HWX.out]
        obtain ⟨c, f, d0, d1, lt⟩ := HFX.out
        clear c0 c1
        go_region_held3 (fun w' => w'.cell? ⟨wr.heap.size, 0, none⟩ = some (.int .i64 2) ∧ w'.cell? ⟨wr.heap.size, 1, none⟩ = some (.int .i64 nn) ∧ Below wx.heap.size wx w')
         (first | exact ⟨d0, d1, (Below.refl _ _).drew⟩ | exact keep22 (by assumption) (by assumption))
         (first | (go_at_call 87; refine (inputs_sl _).mono ?_; rintro e w2 ⟨B2, rfl, hin, hb2⟩))
        have hA1 : Below wx.heap.size wx w2 := (Below.refl _ _).drew.on hb2
        have HA1 := Lib.hid hA1
        clear hA1 hb2 hin c f d0 d1 lt
        obtain ⟨c, f, d0, d1, lt⟩ := HFX.out.below HA1.out
        go_wp2_with fail
        have cs := set_same c (.slice none 0 0)
        refine bodyPost_ret (v := .tuple #[.slice none 0 0, .bool false]) (by simp [results, Tryz.results113, go_sem, cs]) rfl (retP_no HE.out ?_ rfl)
        exact ((HB.out.on HA1.out).setCell (Nat.le_refl _) _)
      obtain ⟨j, rfl⟩ : ∃ j : Nat, nn = (j : Int) := ⟨nn.toNat, by omega⟩
      have g1 : decide (0 ≤ (j : Int)) = true := by simp
      have g2 : decide ((j : Int) < 5) = true := by simpa using h3
      obtain ⟨sj, hsj⟩ : ∃ sj, inB[j]? = some sj := ⟨_, List.getElem?_eq_getElem (show j < 5 by omega)⟩
      have HSJ := Lib.hid hsj
      have HST : Hid (∀ p : Pt, p.cmp = false → stB (ws.take (k + 1)) [] = some ((ps.take N ++ [p]).map (·.cmp))) := Lib.hid fun p hp => st_put HX.out HS.out (by rw [hp]; exact push_one (by rw [List.length_map, HN.out]) (.inr ⟨rfl, h2, h3⟩))
      clear h2 h3 hsj
      have h3 : j < 5 := by have := of_decide_eq_true g2; omega
      go_wp2_with fail
      rw [HWX.out]
      obtain ⟨c, f, d0, d1, lt⟩ := HFX.out
      clear c0 c1
      go_region_held3 (fun w' => w'.cell? ⟨wr.heap.size, 0, none⟩ = some (.int .i64 2) ∧ w'.cell? ⟨wr.heap.size, 1, none⟩ = some (.int .i64 (j : Int)) ∧ Below wx.heap.size wx w')
       (first | exact ⟨d0, d1, (Below.refl _ _).drew⟩ | exact keep22 (by assumption) (by assumption))
       (first | (go_at_call 87; refine (inputs_sl _).mono ?_; rintro e w2 ⟨B2, rfl, hin, hb2⟩))
      have hA1 : Below wx.heap.size wx w2 := (Below.refl _ _).drew.on hb2
      have HA1 := Lib.hid hA1
      clear hA1 hb2 hin c f d0 d1 lt
      obtain ⟨c, f, d0, d1, lt⟩ := HFX.out.below HA1.out
      have HP2 := Lib.hid (HP.out.below HA1.out)
      have HB2 := Lib.hid (HB.out.on HA1.out)
      have HO2 : Hid (w2.ownsRow (W.heap.size + 8) 199 2 (.slice av N cv) N ((ps.take N).flatMap encP)) := Lib.hid (own_take encP_len HP2.out.own (by rw [HN.out]; exact Nat.le_refl _))
      have y1 : (0 : Int) ≤ (j : Int) := by omega
      have y2 : (j : Int) < 5 := by omega
      go_wp2_with fail
      refine region_anyQ (fun w' => w'.cell? ⟨W.heap.size, 0, none⟩ = some (.slice av N cv) ∧ w'.cell? ⟨wr.heap.size, 1, none⟩ = some (.int .i64 (j : Int))) 9 (by kernel_rfl) ⟨c, d1⟩ (fun hS => ?_)
      refine AnyQ.take (i := 0) (v := ?_) rfl (by kernel_rfl) (by kernel_rfl) (by kernel_rfl) (by kernel_rfl) rfl (fun _ _ _ h => h) (Or.inl ⟨by rfl, ?_⟩) (by assumption) ?_
      rotate_left
      focus
       intro w hSw
       (try dsimp only at hSw)
       (try go_split_ands)
       go_simp
       try with_reducible rfl
      (try simp only [Act.put, l_t, l_z, s_t, s_z, s_s])
      refine AnyQ.take (i := 2) (v := ?_) rfl (by kernel_rfl) (by kernel_rfl) (by kernel_rfl) (by kernel_rfl) rfl (fun _ _ _ h => h) (Or.inl ⟨by rfl, ?_⟩) (by assumption) ?_
      rotate_left
      focus
       intro w hSw
       (try dsimp only at hSw)
       (try go_split_ands)
       go_simp
       try with_reducible rfl
      (try simp only [Act.put, l_t, l_s, l_z, s_t, s_z, s_s])
      refine AnyQ.take (i := 3) (v := ?_) rfl (by kernel_rfl) (by kernel_rfl) (by kernel_rfl) (by kernel_rfl) rfl (fun _ _ _ h => h) (Or.inl ⟨by rfl, ?_⟩) (by assumption) ?_
      rotate_left
      focus
       intro w hSw
       (try dsimp only at hSw)
       (try go_split_ands)
       go_simp
       try with_reducible rfl
      (try simp only [Act.put, l_t, l_s, l_z, s_t, s_z, s_s])
      refine AnyQ.one (i := 1) (by kernel_rfl) rfl (fun K hK => ?_)
      go_simp
      go_at_call 87
      refine (inputs_sl _).mono ?_
      rintro e w3 ⟨B3, rfl, hin, hb3⟩
      have hin3 := hin j _ HSJ.out
      have hB3 : Below w2.heap.size w2 w3 := (Below.refl _ _).drew.on hb3
      have HB3 := Lib.hid hB3
      have hS3 : w3.cell? ⟨W.heap.size, 0, none⟩ = some (.slice av N cv) ∧ w3.cell? ⟨wr.heap.size, 1, none⟩ = some (.int .i64 (j : Int)) := ⟨(hB3.cell (World.block_lt_of_cell? w2 _ c)).trans c, (hB3.cell (World.block_lt_of_cell? w2 _ d1)).trans d1⟩
      clear hS c f d0 d1 lt hin hb3 hB3
      refine hK.out _ _ (fun _ => hS3) ?_
      clear hK K
      (try simp only [Act.put, l_t, l_s, l_z, s_t, s_z, s_s])
      refine AnyQ.take (i := 4) (v := ?_) rfl (by kernel_rfl) (by kernel_rfl) (by kernel_rfl) (by kernel_rfl) rfl (fun _ _ _ h => h) (Or.inl ⟨by rfl, ?_⟩) (by assumption) ?_
      rotate_left
      focus
       intro w hSw
       (try dsimp only at hSw)
       (try go_split_ands)
       go_simp
       try with_reducible rfl
      (try simp only [Act.put, l_t, l_s, l_z, s_t, s_z, s_s])
      refine AnyQ.one (i := 5) (by kernel_rfl) rfl (fun K hK => ?_)
      go_simp
      refine hK.out _ _ (fun _ => hS3) ?_
      clear hK K
      (try simp only [Act.put, l_t, l_s, l_z, s_t, s_z, s_s])
      refine AnyQ.one (i := 6) (by kernel_rfl) rfl (fun K hK => ?_)
      go_simp
      go_at_call 156
      refine (name1_any sj _).mono ?_
      rintro e w4 ⟨rfl, rfl⟩
      have HS4 : Hid ((w3.alloc (.cells #[.int .i64 1, .string sj, .int .i64 0, .int .i64 0] 251)).cell? ⟨W.heap.size, 0, none⟩ = some (.slice av N cv) ∧ (w3.alloc (.cells #[.int .i64 1, .string sj, .int .i64 0, .int .i64 0] 251)).cell? ⟨wr.heap.size, 1, none⟩ = some (.int .i64 (j : Int))) := Lib.hid ⟨(World.cell?_alloc_lt _ _ _ (World.block_lt_of_cell? w3 _ hS3.1)).trans hS3.1, (World.cell?_alloc_lt _ _ _ (World.block_lt_of_cell? w3 _ hS3.2)).trans hS3.2⟩
      obtain ⟨w4, hw4⟩ : ∃ w4, w3.alloc (.cells #[.int .i64 1, .string sj, .int .i64 0, .int .i64 0] 251) = w4 := ⟨_, rfl⟩
      have hT4 := sl_one w3 ⟨1, sj, 0, 0⟩ 251
      have hb4 := al0 w3 #[.int .i64 1, .string sj, .int .i64 0, .int .i64 0] 251
      simp only at hT4
      rw [hw4] at HS4 hT4 hb4
      rw [hw4]
      have hS4 := HS4.out
      have HPB := Lib.hid (HP2.out.below (HB3.out.on hb4))
      have HT4 : Hid (PtT w4 W.heap.size (.slice av N cv) ⟨some ⟨w3.heap.size, 0, none⟩, 1, 1, [⟨1, sj, 0, 0⟩], false⟩) := Lib.hid (ptT_new HP2.out hT4 (ok_one (nm_ok (in_names sj (List.mem_of_getElem? HSJ.out)))) (fun _ => ⟨_, _, rfl, HB3.out.size⟩))
      have HO4 := Lib.hid (ownsRow_below' HO2.out (HB3.out.on hb4))
      have HBW := Lib.hid (HB2.out.on (HB3.out.on hb4))
      have HS5 : Hid ((w4.alloc (.cells #[.slice (some ⟨w3.heap.size, 0, none⟩) 1 1, .bool false] 199)).cell? ⟨W.heap.size, 0, none⟩ = some (.slice av N cv) ∧ (w4.alloc (.cells #[.slice (some ⟨w3.heap.size, 0, none⟩) 1 1, .bool false] 199)).cell? ⟨wr.heap.size, 1, none⟩ = some (.int .i64 (j : Int))) := Lib.hid ⟨(World.cell?_alloc_lt _ _ _ (World.block_lt_of_cell? w4 _ hS4.1)).trans hS4.1, (World.cell?_alloc_lt _ _ _ (World.block_lt_of_cell? w4 _ hS4.2)).trans hS4.2⟩
      have l8 := HPB.out.six.tb.lt
      clear hw4 hT4 hb4 hS3 hin3
      refine hK.out _ _ (fun _ => hS4) ?_
      clear hK K
      (try simp only [Act.put, l_t, l_s, l_z, s_t, s_z, s_s])
      refine AnyQ.take (i := 7) (v := ?_) rfl (by kernel_rfl) (by kernel_rfl) (by kernel_rfl) (by kernel_rfl) rfl (fun _ _ _ h => h) (Or.inl ⟨by rfl, ?_⟩) (by assumption) ?_
      rotate_left
      focus
       intro w hSw
       (try dsimp only at hSw)
       (try go_split_ands)
       go_simp
       try with_reducible rfl
      (try simp only [Act.put, l_t, l_s, l_z, s_t, s_z, s_s])
      refine AnyQ.one (i := 8) (by kernel_rfl) rfl (fun K hK => ?_)
      go_simp
      refine hK.out _ _ (fun _ => HS5.out) ?_
      clear hK K
      (try simp only [Act.put, l_t, l_s, l_z, s_t, s_z, s_s])
      refine AnyQ.one (i := 9) (by kernel_rfl) rfl (fun K hK => ?_)
      refine step_append_own2 rfl _ _ 193 rfl (W.heap.size + 8) 199 i9 _ 2 32 Tryz.underlying193 hi9 hz90 hz91 hz92 rfl (by decide) _ _ _ (HO4.out.alloc _) rfl ⟨_, 0, none⟩ 1 1 [.slice (some ⟨w3.heap.size, 0, none⟩) 1 1, .bool false] rfl rfl (news2 _ _ _ _ _ rfl) (by simp [Value.oneCell']) (by unfold maxLen; omega) (by omega) (by first | omega | (simp; omega)) ?_
      intro v' w8 hown' hgrow hfr
      obtain ⟨av', cv', rfl, _, _⟩ := own_slice hown'
      obtain ⟨cq, fq, lq⟩ := PtW.far (HPB.out.below (al0 _ _ _)) hgrow
      refine hK.out _ _ (fun h => absurd ((show _ = true from by kernel_rfl).symm.trans h) (by simp)) ?_
      clear hK K
      (try simp only [Act.put, l_t, l_s, l_z, s_t, s_z, s_s])
      refine AnyQ.one (i := 10) (by kernel_rfl) rfl (fun K hK => ?_)
      go_simp
      refine hK.out _ _ (fun h => absurd ((show _ = true from by kernel_rfl).symm.trans h) (by simp)) ?_
      clear hK K
      (try simp only [Act.put, l_t, l_s, l_z, s_t, s_z, s_s])
      refine AnyQ.done (by kernel_rfl) ?_ _
      go_wp2_with fail
      go_roundw
      case rel =>
       have hT := HT4.out.below (al0 w4 #[.slice (some ⟨w3.heap.size, 0, none⟩) 1 1, .bool false] 199)
       have hY := HPB.out.below (al0 w4 #[.slice (some ⟨w3.heap.size, 0, none⟩) 1 1, .bool false] 199)
       have hBY : Below W.heap.size W _ := HBW.out.on (al0 w4 #[.slice (some ⟨w3.heap.size, 0, none⟩) 1 1, .bool false] 199)
       exact ⟨k + 1, _, ps.take N ++ [_], by go_num, by omega, len_put HN.out hNk, hY.put hT (by rw [HN.out]; exact Nat.le_refl _) (sum_put HPR.out.sum (by simp)) hown' hgrow hfr, Lib.hid (HST.out _ rfl), (hBY.grown hgrow hBY.size (fun b e => by have := (hY.lt b e).1; omega)).setCell (Nat.le_refl _) _⟩
      case measure => simp [intOf]; omega
    have g1 : (op == 1) = false := by simpa using h1
    have g2 : (op == 2) = false := by simpa using h2
    have g3 : (op == 10) = false := by simp; omega
    have HE : Hid (okW ws = false) := Lib.hid (okW_no HX.out HS.out (pushB_none (by simp; omega) (by simp; omega) (by simp; omega) (by simp; omega)))
    clear h1 h2
    rcases hsmall with h3 | h3
    · have g4 : decide (3 ≤ op) = false := by simp; omega
      as_aux_lemma =>
       go_wp2_with fail
       rw [HWX.out]
       obtain ⟨c, f, d0, d1, lt⟩ := HFX.out
       clear c0 c1
       go_quiet (fail)
       go_wp2_with fail
       have cs := fun q => set_same (w := wx.drewN q) (p := ⟨W.heap.size, 0, none⟩) c (.slice none 0 0)
       refine bodyPost_ret (v := .tuple #[.slice none 0 0, .bool false]) (by simp [results, Tryz.results113, go_sem, cs]) rfl (retP_no HE.out ?_ rfl)
       exact ((HB.out.on (Below.drewN0 _ _)).setCell (Nat.le_refl _) _)
    · have g4 : decide (3 ≤ op) = true := by simp; omega
      have g5 : decide (op < 10) = false := by simp; omega
      as_aux_lemma =>
       go_wp2_with fail
       rw [HWX.out]
       obtain ⟨c, f, d0, d1, lt⟩ := HFX.out
       clear c0 c1
       go_quiet (fail)
       go_wp2_with fail
       have cs := fun q => set_same (w := wx.drewN q) (p := ⟨W.heap.size, 0, none⟩) c (.slice none 0 0)
       refine bodyPost_ret (v := .tuple #[.slice none 0 0, .bool false]) (by simp [results, Tryz.results113, go_sem, cs]) rfl (retP_no HE.out ?_ rfl)
       exact ((HB.out.on (Below.drewN0 _ _)).setCell (Nat.le_refl _) _)
  by_cases h10 : op = 10
  · subst h10
    clear hsmall
    by_cases h2 : nn = 0
    rotate_left
    · have g1 : (nn == 0) = false := by simpa using h2
      have HE : Hid (okW ws = false) := Lib.hid (okW_no HX.out HS.out (pushB_none (by simp) (by simp) (by simp; omega) (by simp)))
      clear h2
      as_aux_lemma =>
       go_wp2_with fail
       rw [HWX.out]
       obtain ⟨c, f, d0, d1, lt⟩ := HFX.out
       clear c0 c1
       go_quiet (fail)
       go_wp2_with fail
       have cs := fun q => set_same (w := wx.drewN q) (p := ⟨W.heap.size, 0, none⟩) c (.slice none 0 0)
       refine bodyPost_ret (v := .tuple #[.slice none 0 0, .bool false]) (by simp [results, Tryz.results113, go_sem, cs]) rfl (retP_no HE.out ?_ rfl)
       exact ((HB.out.on (Below.drewN0 _ _)).setCell (Nat.le_refl _) _)
    subst h2
    by_cases h3 : N ≤ 2
    · have g1 : decide ((2 : Int) < (N : Int)) = false := by simp; omega
      have HE : Hid (okW ws = false) := Lib.hid (okW_no HX.out HS.out (pushB_none (by simp) (by simp) (by simp [HN.out]; omega) (by simp)))
      clear h3
      as_aux_lemma =>
       go_wp2_with fail
       rw [HWX.out]
       obtain ⟨c, f, d0, d1, lt⟩ := HFX.out
       clear c0 c1
       go_quiet (fail)
       go_wp2_with fail
       have cs := fun q => set_same (w := wx.drewN q) (p := ⟨W.heap.size, 0, none⟩) c (.slice none 0 0)
       refine bodyPost_ret (v := .tuple #[.slice none 0 0, .bool false]) (by simp [results, Tryz.results113, go_sem, cs]) rfl (retP_no HE.out ?_ rfl)
       exact ((HB.out.on (Below.drewN0 _ _)).setCell (Nat.le_refl _) _)
    obtain ⟨m, rfl⟩ : ∃ m, N = m + 3 := ⟨N - 3, by omega⟩
    obtain ⟨g, o, rfl, hgl⟩ := HSL.out.at' (by omega)
    obtain ⟨p0, hp0⟩ := HSL.out.get (i := m) (by omega)
    obtain ⟨r0, r1⟩ := HSL.out.p2 hp0
    have g1 : decide ((2 : Int) < ((m + 3 : Nat) : Int)) = true := by simp; omega
    have HP0 := Lib.hid hp0
    clear hp0 h3
    cases hcm : p0.cmp
    · rw [hcm] at r1
      have HE : Hid (okW ws = false) := Lib.hid (okW_no HX.out HS.out (pushB_none (by simp) (by simp) (by rintro ⟨_, _, _, h, _⟩; rw [List.length_map, HN.out, List.getElem?_map, show m + 3 - 3 = m by omega, HP0.out, Option.map_some, hcm] at h; cases h) (by simp)))
      clear hcm
      as_aux_lemma =>
       go_wp2_with fail
       rw [HWX.out]
       obtain ⟨c, f, d0, d1, lt⟩ := HFX.out
       clear c0 c1
       go_quiet (fail)
       go_wp2_with fail
       have cs := fun q => set_same (w := wx.drewN q) (p := ⟨W.heap.size, 0, none⟩) c (.slice none 0 0)
       refine bodyPost_ret (v := .tuple #[.slice none 0 0, .bool false]) (by simp [results, Tryz.results113, go_sem, cs]) rfl (retP_no HE.out ?_ rfl)
       exact ((HB.out.on (Below.drewN0 _ _)).setCell (Nat.le_refl _) _)
    have HCM := Lib.hid hcm
    rw [hcm] at r1
    clear hcm
    cases hpl : plB (ps.map (·.cmp))
    · have HPL := Lib.hid hpl
      have HE : Hid (okW ws = false) := Lib.hid (okW_no HX.out HS.out (pushB_none (by simp) (by simp) (by rw [hpl]; simp) (by simp)))
      clear hpl
      as_aux_lemma =>
       go_wp2_with fail
       rw [HWX.out]
       obtain ⟨c, f, d0, d1, lt⟩ := HFX.out
       clear c0 c1
       go_quiet (fail)
       go_wp2_with fail
       refine (plain_any _ _ _ _ ps (wx.drewN _) c (HSL.out.drewN _)).mono ?_
       rintro e w1 ⟨rfl, hA⟩
       rw [HPL.out]
       have hA1 : Below wx.heap.size wx w1 := (Below.drewN0 _ _).on hA
       have HA1 := Lib.hid hA1
       clear hA hA1 c f d0 d1 lt r0 r1
       obtain ⟨c, f, d0, d1, lt⟩ := HFX.out.below HA1.out
       go_wp2_with fail
       have cs := set_same c (.slice none 0 0)
       refine bodyPost_ret (v := .tuple #[.slice none 0 0, .bool false]) (by simp [results, Tryz.results113, go_sem, cs]) rfl (retP_no HE.out ?_ rfl)
       exact ((HB.out.on HA1.out).setCell (Nat.le_refl _) _)
    have HPL := Lib.hid hpl
    have hpush := push_choose (st := ps.map (·.cmp)) (by rw [List.length_map, HN.out]) (by rw [List.getElem?_map, HP0.out, Option.map_some, HCM.out]) hpl
    have HST : Hid (∀ p : Pt, p.cmp = false → stB (ws.take (k + 1)) [] = some ((ps.take m ++ [p]).map (·.cmp))) := Lib.hid fun p hp => st_put HX.out HS.out (by rw [hp]; exact hpush)
    clear hpl hpush
    go_wp2_with fail
    rw [HWX.out]
    obtain ⟨c, f, d0, d1, lt⟩ := HFX.out
    clear c0 c1
    go_quiet (fail)
    go_wp2_with fail
    refine (plain_any _ _ _ _ ps (wx.drewN _) c (HSL.out.drewN _)).mono ?_
    rintro e w1 ⟨rfl, hA⟩
    rw [HPL.out]
    have hA1 : Below wx.heap.size wx w1 := (Below.drewN0 _ _).on hA
    have HA1 := Lib.hid hA1
    clear hA hA1 c f d0 d1 lt r0 r1
    obtain ⟨c, f, d0, d1, lt⟩ := HFX.out.below HA1.out
    obtain ⟨p1, hp1⟩ := HSL.out.get (i := m + 1) (by omega)
    obtain ⟨p2, hp2⟩ := HSL.out.get (i := m + 2) (by omega)
    have hSL1 := HSL.out.below HA1.out
    obtain ⟨t0, _⟩ := hSL1.p2 HP0.out
    obtain ⟨t1, _⟩ := hSL1.p2 hp1
    obtain ⟨t2, _⟩ := hSL1.p2 hp2
    have hPw := HP.out.below HA1.out
    have hT0 := hPw.txt p0 (List.mem_of_getElem? HP0.out)
    have hT1 := hPw.txt p1 (List.mem_of_getElem? hp1)
    have hT2 := hPw.txt p2 (List.mem_of_getElem? hp2)
    have hd3 := drop3 HN.out HP0.out hp1 hp2
    have hds := sum_drop ps m
    have hss := hPw.sum
    rw [hd3] at hds
    have hnn : p0.n + (p1.n + p2.n) ≤ 1280 := by omega
    have HD3 := Lib.hid hd3
    have HC : Hid (∀ (w2 w3 w4 w5 w6 : World) (B1 B2 B3 B4 B5 : Nat), Below w1.heap.size w1 w2 → SL encT 4 w2 (some ⟨B1, 0, none⟩) 1 1 [sgT ⟨#[40]⟩] → Below w2.heap.size w2 w3 → SL encT 4 w3 (some ⟨B2, 0, none⟩) 1 1 [nmT ⟨#[105, 102]⟩] → Below w3.heap.size w3 w4 → SL encT 4 w4 (some ⟨B3, 0, none⟩) 1 1 [nmT ⟨#[116, 104, 101, 110]⟩] → Below w4.heap.size w4 w5 → SL encT 4 w5 (some ⟨B4, 0, none⟩) 1 1 [nmT ⟨#[101, 108, 115, 101]⟩] → Below w5.heap.size w5 w6 → SL encT 4 w6 (some ⟨B5, 0, none⟩) 1 1 [sgT ⟨#[41]⟩] →
     Calls Tryz.prog 152 #[.slice (some ⟨w6.heap.size, 0, none⟩) 8 8] (w6.alloc (.cells #[.slice (some ⟨B1, 0, none⟩) 1 1, .slice (some ⟨B2, 0, none⟩) 1 1, .slice p0.a p0.n p0.c, .slice (some ⟨B3, 0, none⟩) 1 1, .slice p1.a p1.n p1.c, .slice (some ⟨B4, 0, none⟩) 1 1, .slice p2.a p2.n p2.c, .slice (some ⟨B5, 0, none⟩) 1 1] 197)) fun e w' => RetT w1 (p0.n + (p1.n + p2.n) + 5) e w') := Lib.hid fun w2 w3 w4 w5 w6 B1 B2 B3 B4 B5 b1 s1 b2 s2 b3 s3 b4 s4 b5 s5 =>
     have b26 := ((b2.on b3).on b4).on b5
     have b16 := b1.on b26
     concat_t [.slice (some ⟨B1, 0, none⟩) 1 1, .slice (some ⟨B2, 0, none⟩) 1 1, .slice p0.a p0.n p0.c, .slice (some ⟨B3, 0, none⟩) 1 1, .slice p1.a p1.n p1.c, .slice (some ⟨B4, 0, none⟩) 1 1, .slice p2.a p2.n p2.c, .slice (some ⟨B5, 0, none⟩) 1 1] [[sgT ⟨#[40]⟩], [nmT ⟨#[105, 102]⟩], p0.ts, [nmT ⟨#[116, 104, 101, 110]⟩], p1.ts, [nmT ⟨#[101, 108, 115, 101]⟩], p2.ts, [sgT ⟨#[41]⟩]] 8 rfl (by omega) _ w1 w6 b16
      (.cons (s1.below b26) (.cons (s2.below ((b3.on b4).on b5)) (.cons (hT0.sl.below b16) (.cons (s3.below (b4.on b5)) (.cons (hT1.sl.below b16) (.cons (s4.below b5) (.cons (hT2.sl.below b16) (.cons s5 .nil))))))))
      (by simpa using ok_app (ok_one sg40) (ok_app (ok_one nm_if) (ok_app hT0.ok (ok_app (ok_one nm_then) (ok_app hT1.ok (ok_app (ok_one nm_else) (ok_app hT2.ok (ok_one sg41))))))))
      (by simp [hT0.sl.len, hT1.sl.len, hT2.sl.len]; omega) (by omega)
    have hw1 : IntKind.i64.wrap ((m : Int) + 1) = (m : Int) + 1 := by rw [IntKind.wrap_i64]; omega
    have hw2 : IntKind.i64.wrap ((m : Int) + 2) = (m : Int) + 2 := by rw [IntKind.wrap_i64]; omega
    have x1 : (0 : Int) ≤ (m : Int) + 1 := by omega
    have x2 : (0 : Int) ≤ (m : Int) + 2 := by omega
    have x3 : ((m : Int) + 1).toNat = m + 1 := by omega
    have x4 : ((m : Int) + 2).toNat = m + 2 := by omega
    have x9 : (0 : Int) ≤ (m : Int) := by omega
    have x10 : (m : Int) < (m : Int) + 3 := by omega
    have x11 : (m : Int) + 1 < (m : Int) + 3 := by omega
    have x12 : (m : Int) + 2 < (m : Int) + 3 := by omega
    have x5 : (m : Int) < ((m + 3 : Nat) : Int) := by omega
    have x6 : (m : Int) + 1 < ((m + 3 : Nat) : Int) := by omega
    have x7 : (m : Int) + 2 < ((m + 3 : Nat) : Int) := by omega
    have HPW := Lib.hid hPw
    clear hp1 hp2 hSL1 hPw hT0 hT1 hT2 hd3 hds hss
    go_wp2_with fail
    go_region_held3 (fun w' => w'.cell? ⟨W.heap.size, 0, none⟩ = some (.slice (some ⟨g, o, none⟩) (m + 3) cv) ∧ w'.cell? ⟨g, o + m * 2, none⟩ = some (.slice p0.a p0.n p0.c) ∧ w'.cell? ⟨g, o + (m + 1) * 2, none⟩ = some (.slice p1.a p1.n p1.c) ∧ w'.cell? ⟨g, o + (m + 2) * 2, none⟩ = some (.slice p2.a p2.n p2.c) ∧ Below w1.heap.size w1 w')
     (first | exact ⟨c, t0, t1, t2, (Below.refl _ _).drew⟩ | exact keep4 (by assumption) (by assumption) | exact keep4 (by assumption) (al0 _ _ _) | exact keep4 ⟨c, t0, t1, t2, Below.refl _ _⟩ (by assumption))
     (first | (go_at_call 153; refine (sign_sl ⟨#[40]⟩ _).mono ?_; rintro e w2 ⟨B1, rfl, s1', b1⟩) | (go_at_call 156; refine (name_sl ⟨#[105, 102]⟩ _).mono ?_; rintro e w3 ⟨B2, rfl, s2', b2⟩) | (go_at_call 156; refine (name_sl ⟨#[116, 104, 101, 110]⟩ _).mono ?_; rintro e w4 ⟨B3, rfl, s3', b3⟩) | (go_at_call 156; refine (name_sl ⟨#[101, 108, 115, 101]⟩ _).mono ?_; rintro e w5 ⟨B4, rfl, s4', b4⟩) | (go_at_call 153; refine (sign_sl ⟨#[41]⟩ _).mono ?_; rintro e w6 ⟨B5, rfl, s5', b5⟩) | (go_at_call 152; refine (HC.out w2 w3 w4 w5 w6 B1 B2 B3 B4 B5 ((Below.refl _ _).drew.on b1) s1' b2 s2' b3 s3' b4 s4' b5 s5').mono ?_; rintro e w7 ⟨a', n', c', ts, rfl, h7, hk7, hl7, hn7, hb7⟩))
    clear hw1 hw2 x1 x2 x3 x4 x5 x6 x7 x10 x11 x12
    have HN7 := Lib.hid hn7
    have HP7 := Lib.hid (HPW.out.below hb7)
    have HT7 : Hid (PtT w7 W.heap.size (.slice (some ⟨g, o, none⟩) (m + 3) cv) ⟨a', n', c', ts, false⟩) := Lib.hid (ptT_new HPW.out h7 hk7 hn7)
    have HO7 := Lib.hid (own_take encP_len HP7.out.own (m := m) (by rw [HN.out]; omega))
    have HB7 := Lib.hid ((HB.out.on HA1.out).on hb7)
    have hcap := HSL.out.cap
    have x8 : (m : Int) ≤ (cv : Int) := by omega
    have c7 := (HP7.out.box.cell 0)
    have f7 := (HP7.out.box.frozen 0)
    have l7 := HP7.out.box.lt
    have l8 := HP7.out.six.tb.lt
    simp only [List.getElem?_toArray, List.getElem?_cons_zero] at c7
    go_split_ands
    clear hn7 h7 hk7 hb7 c f d0 d1 t0 t1 t2 s1' s2' s3' s4' s5' b1 b2 b3 b4 b5 HC
    go_wp2_with ((at_builtin; refine wpList_append_own2 _ rfl _ _ 193 rfl (W.heap.size + 8) 199 i9 _ 2 32 Tryz.underlying193 hi9 hz90 hz91 hz92 rfl (by decide) _ _ _ (HO7.out.alloc _) rfl ⟨_, 0, none⟩ 1 1 [.slice a' n' c', .bool false] rfl rfl (news2 _ _ _ _ _ (by first | rfl | simp)) (by simp [Value.oneCell']) (by unfold maxLen; omega) (by omega) (by first | omega | (simp; omega)) ?_; intro v' w8 hown' hgrow hfr; obtain ⟨av', cv', rfl, _, _⟩ := own_slice hown'; obtain ⟨cq, fq, lq⟩ := PtW.far (HP7.out.below (al0 _ _ _)) hgrow))
    go_roundw
    case rel =>
     have hT := HT7.out.below (al0 w7 #[.slice a' n' c', .bool false] 199)
     have hY := HP7.out.below (al0 w7 #[.slice a' n' c', .bool false] 199)
     have hBY : Below W.heap.size W _ := HB7.out.on (al0 w7 #[.slice a' n' c', .bool false] 199)
     exact ⟨k + 1, _, ps.take m ++ [_], by go_num, by omega, len_put HN.out hNk, hY.put hT (by rw [HN.out]; omega) (sum_put HPR.out.sum (by rw [HD3.out]; exact hl7)) hown' hgrow hfr, Lib.hid (HST.out _ rfl), (hBY.grown hgrow hBY.size (fun b e => by have := (hY.lt b e).1; omega)).setCell (Nat.le_refl _) _⟩
    case measure => simp [intOf]; omega
  obtain ⟨j, rfl⟩ : ∃ j : Nat, op = (j : Int) := ⟨op.toNat, by omega⟩
  have j3 : 3 ≤ j := by omega
  have j10 : j < 10 := by omega
  clear hsmall h10
  have g1 : ((j : Int) == 1) = false := by simp; omega
  have g2 : ((j : Int) == 2) = false := by simp; omega
  have g3 : ((j : Int) == 10) = false := by simp; omega
  have g4 : decide ((3 : Int) ≤ (j : Int)) = true := by simp; omega
  have g5 : decide ((j : Int) < 10) = true := by simp; omega
  by_cases h2 : nn = 0
  rotate_left
  · have g6 : (nn == 0) = false := by simpa using h2
    have HE : Hid (okW ws = false) := Lib.hid (okW_no HX.out HS.out (pushB_none (by simp; omega) (by simp; omega) (by simp; omega) (by simp; omega)))
    clear h2
    as_aux_lemma =>
     go_wp2_with fail
     rw [HWX.out]
     obtain ⟨c, f, d0, d1, lt⟩ := HFX.out
     clear c0 c1
     go_quiet (fail)
     go_wp2_with fail
     have cs := fun q => set_same (w := wx.drewN q) (p := ⟨W.heap.size, 0, none⟩) c (.slice none 0 0)
     refine bodyPost_ret (v := .tuple #[.slice none 0 0, .bool false]) (by simp [results, Tryz.results113, go_sem, cs]) rfl (retP_no HE.out ?_ rfl)
     exact ((HB.out.on (Below.drewN0 _ _)).setCell (Nat.le_refl _) _)
  subst h2
  cases hpl : plB (ps.map (·.cmp))
  · have HPL := Lib.hid hpl
    have r0 : True := trivial
    have r1 : True := trivial
    have HE : Hid (okW ws = false) := Lib.hid (okW_no HX.out HS.out (pushB_none (by simp; omega) (by simp; omega) (by rw [hpl]; simp) (by rw [hpl]; simp)))
    clear hpl
    as_aux_lemma =>
     go_wp2_with fail
     rw [HWX.out]
     obtain ⟨c, f, d0, d1, lt⟩ := HFX.out
     clear c0 c1
     go_quiet (fail)
     go_wp2_with fail
     refine (plain_any _ _ _ _ ps (wx.drewN _) c (HSL.out.drewN _)).mono ?_
     rintro e w1 ⟨rfl, hA⟩
     rw [HPL.out]
     have hA1 : Below wx.heap.size wx w1 := (Below.drewN0 _ _).on hA
     have HA1 := Lib.hid hA1
     clear hA hA1 c f d0 d1 lt r0 r1
     obtain ⟨c, f, d0, d1, lt⟩ := HFX.out.below HA1.out
     go_wp2_with fail
     have cs := set_same c (.slice none 0 0)
     refine bodyPost_ret (v := .tuple #[.slice none 0 0, .bool false]) (by simp [results, Tryz.results113, go_sem, cs]) rfl (retP_no HE.out ?_ rfl)
     exact ((HB.out.on HA1.out).setCell (Nat.le_refl _) _)
  have h2N := ((plB_iff _).1 hpl).1
  rw [List.length_map, HN.out] at h2N
  obtain ⟨m, rfl⟩ : ∃ m, N = m + 2 := ⟨N - 2, by omega⟩
  obtain ⟨g, o, rfl, hgl⟩ := HSL.out.at' (by omega)
  obtain ⟨p0, hp0⟩ := HSL.out.get (i := m) (by omega)
  have HPL := Lib.hid hpl
  have hpush := push_bin (st := ps.map (·.cmp)) (by rw [List.length_map, HN.out]) j3 j10 hpl
  have HST : Hid (∀ p : Pt, p.cmp = ((j : Int) == 9) → stB (ws.take (k + 1)) [] = some ((ps.take m ++ [p]).map (·.cmp))) := Lib.hid fun p hp => st_put HX.out HS.out (by rw [hp]; exact hpush)
  have HP0 := Lib.hid hp0
  have r0 : True := trivial
  have r1 : True := trivial
  clear hpl hpush hp0 h2N
  go_wp2_with fail
  rw [HWX.out]
  obtain ⟨c, f, d0, d1, lt⟩ := HFX.out
  clear c0 c1
  go_quiet (fail)
  go_wp2_with fail
  refine (plain_any _ _ _ _ ps (wx.drewN _) c (HSL.out.drewN _)).mono ?_
  rintro e w1 ⟨rfl, hA⟩
  rw [HPL.out]
  have hA1 : Below wx.heap.size wx w1 := (Below.drewN0 _ _).on hA
  have HA1 := Lib.hid hA1
  clear hA hA1 c f d0 d1 lt r0 r1
  obtain ⟨c, f, d0, d1, lt⟩ := HFX.out.below HA1.out
  obtain ⟨p1, hp1⟩ := HSL.out.get (i := m + 1) (by omega)
  have hSL1 := HSL.out.below HA1.out
  obtain ⟨t0, _⟩ := hSL1.p2 HP0.out
  obtain ⟨t1, _⟩ := hSL1.p2 hp1
  have hPw := HP.out.below HA1.out
  have hT0 := hPw.txt p0 (List.mem_of_getElem? HP0.out)
  have hT1 := hPw.txt p1 (List.mem_of_getElem? hp1)
  have hd2 := drop2 HN.out HP0.out hp1
  have hds := sum_drop ps m
  have hss := hPw.sum
  rw [hd2] at hds
  have hnn : p0.n + p1.n ≤ 1280 := by omega
  have HD2 := Lib.hid hd2
  obtain ⟨fn, caps, hfv, hen, hFn⟩ := hPw.six.get j3 j10
  have HCF : Hid (∀ W' : World, Below w1.heap.size w1 W' → Calls Tryz.prog fn (#[.slice p0.a p0.n p0.c, .slice p1.a p1.n p1.c] ++ caps) W' (RetT W' (p0.n + p1.n + 5))) := Lib.hid fun W' hB' => hFn _ _ _ _ _ _ _ _ W' hB' (hT0.sl.below hB') (hT1.sl.below hB') hT0.ok hT1.ok (by omega)
  have HPW := Lib.hid hPw
  have HO1 : Hid (w1.ownsRow (W.heap.size + 8) 199 2 (.slice (some ⟨g, o, none⟩) m cv) m ((ps.take m).flatMap encP)) := Lib.hid (own_take encP_len hPw.own (m := m) (by rw [HN.out]; omega))
  have HFV : Hid (w1.cell? ⟨W.heap.size + 1 + 1 + 1 + 1 + 1 + 1 + 1, j, none⟩ = some (.func (.func fn) #[] caps)) := Lib.hid hfv
  have hcap := HSL.out.cap
  clear hfv hFn hp1 hSL1 hPw hT0 hT1 hd2 hds hss
  unfold Enters at hen
  have hw1 : IntKind.i64.wrap ((m : Int) + 1) = (m : Int) + 1 := by rw [IntKind.wrap_i64]; omega
  have x1 : (0 : Int) ≤ (m : Int) + 1 := by omega
  have x3 : ((m : Int) + 1).toNat = m + 1 := by omega
  have x9 : (0 : Int) ≤ (m : Int) := by omega
  have x10 : (m : Int) < (m : Int) + 2 := by omega
  have x11 : (m : Int) + 1 < (m : Int) + 2 := by omega
  have x5 : (m : Int) < ((m + 2 : Nat) : Int) := by omega
  have x6 : (m : Int) + 1 < ((m + 2 : Nat) : Int) := by omega
  have x8 : (m : Int) ≤ (cv : Int) := by omega
  have y1 : (0 : Int) ≤ (j : Int) := by omega
  have y2 : (j : Int) < 10 := by omega
  go_wp2_with fail
  refine region_anyQ (fun w' => w'.cell? ⟨W.heap.size, 0, none⟩ = some (.slice (some ⟨g, o, none⟩) (m + 2) cv) ∧ w'.cell? ⟨wr.heap.size, 0, none⟩ = some (.int .i64 (j : Int)) ∧ w'.cell? ⟨W.heap.size + 1 + 1 + 1 + 1 + 1 + 1 + 1, j, none⟩ = some (.func (.func fn) #[] caps) ∧ w'.cell? ⟨g, o + m * 2, none⟩ = some (.slice p0.a p0.n p0.c) ∧ w'.cell? ⟨g, o + (m + 1) * 2, none⟩ = some (.slice p1.a p1.n p1.c)) 24 (by kernel_rfl) ⟨c, d0, HFV.out, t0, t1⟩ (fun hS => ?_)
  refine AnyQ.take (i := 0) (v := ?_) rfl (by kernel_rfl) (by kernel_rfl) (by kernel_rfl) (by kernel_rfl) rfl (fun _ _ _ h => h) (Or.inl ⟨by rfl, ?_⟩) (by assumption) ?_
  rotate_left
  focus
   intro w hSw
   (try dsimp only at hSw)
   (try go_split_ands)
   go_simp
   try with_reducible rfl
  (try simp only [Act.put, l_t, l_z, s_t, s_z, s_s])
  refine AnyQ.take (i := 1) (v := ?_) rfl (by kernel_rfl) (by kernel_rfl) (by kernel_rfl) (by kernel_rfl) rfl (fun _ _ _ h => h) (Or.inl ⟨by rfl, ?_⟩) (by assumption) ?_
  rotate_left
  focus
   intro w hSw
   (try dsimp only at hSw)
   (try go_split_ands)
   go_simp
   try with_reducible rfl
  (try simp only [Act.put, l_t, l_s, l_z, s_t, s_z, s_s])
  refine AnyQ.take (i := 2) (v := ?_) rfl (by kernel_rfl) (by kernel_rfl) (by kernel_rfl) (by kernel_rfl) rfl (fun _ _ _ h => h) (Or.inl ⟨by rfl, ?_⟩) (by assumption) ?_
  rotate_left
  focus
   intro w hSw
   (try dsimp only at hSw)
   (try go_split_ands)
   go_simp
   try with_reducible rfl
  (try simp only [Act.put, l_t, l_s, l_z, s_t, s_z, s_s])
  refine AnyQ.take (i := 3) (v := ?_) rfl (by kernel_rfl) (by kernel_rfl) (by kernel_rfl) (by kernel_rfl) rfl (fun _ _ _ h => h) (Or.inl ⟨by rfl, ?_⟩) (by assumption) ?_
  rotate_left
  focus
   intro w hSw
   (try dsimp only at hSw)
   (try go_split_ands)
   go_simp
   try with_reducible rfl
  (try simp only [Act.put, l_t, l_s, l_z, s_t, s_z, s_s])
  refine AnyQ.take (i := 4) (v := ?_) rfl (by kernel_rfl) (by kernel_rfl) (by kernel_rfl) (by kernel_rfl) rfl (fun _ _ _ h => h) (Or.inl ⟨by rfl, ?_⟩) (by assumption) ?_
  rotate_left
  focus
   intro w hSw
   (try dsimp only at hSw)
   (try go_split_ands)
   go_simp
   try with_reducible rfl
  (try simp only [Act.put, l_t, l_s, l_z, s_t, s_z, s_s])
  refine AnyQ.take (i := 5) (v := ?_) rfl (by kernel_rfl) (by kernel_rfl) (by kernel_rfl) (by kernel_rfl) rfl (fun _ _ _ h => h) (Or.inl ⟨by rfl, ?_⟩) (by assumption) ?_
  rotate_left
  focus
   intro w hSw
   (try dsimp only at hSw)
   (try go_split_ands)
   go_simp
   try with_reducible rfl
  (try simp only [Act.put, l_t, l_s, l_z, s_t, s_z, s_s])
  refine AnyQ.take (i := 6) (v := ?_) rfl (by kernel_rfl) (by kernel_rfl) (by kernel_rfl) (by kernel_rfl) rfl (fun _ _ _ h => h) (Or.inl ⟨by rfl, ?_⟩) (by assumption) ?_
  rotate_left
  focus
   intro w hSw
   (try dsimp only at hSw)
   (try go_split_ands)
   go_simp
   try with_reducible rfl
  (try simp only [Act.put, l_t, l_s, l_z, s_t, s_z, s_s])
  refine AnyQ.take (i := 7) (v := ?_) rfl (by kernel_rfl) (by kernel_rfl) (by kernel_rfl) (by kernel_rfl) rfl (fun _ _ _ h => h) (Or.inl ⟨by rfl, ?_⟩) (by assumption) ?_
  rotate_left
  focus
   intro w hSw
   (try dsimp only at hSw)
   (try go_split_ands)
   go_simp
   try with_reducible rfl
  (try simp only [Act.put, l_t, l_s, l_z, s_t, s_z, s_s])
  refine AnyQ.take (i := 8) (v := ?_) rfl (by kernel_rfl) (by kernel_rfl) (by kernel_rfl) (by kernel_rfl) rfl (fun _ _ _ h => h) (Or.inl ⟨by rfl, ?_⟩) (by assumption) ?_
  rotate_left
  focus
   intro w hSw
   (try dsimp only at hSw)
   (try go_split_ands)
   go_simp
   try with_reducible rfl
  (try simp only [Act.put, l_t, l_s, l_z, s_t, s_z, s_s])
  refine AnyQ.take (i := 9) (v := ?_) rfl (by kernel_rfl) (by kernel_rfl) (by kernel_rfl) (by kernel_rfl) rfl (fun _ _ _ h => h) (Or.inl ⟨by rfl, ?_⟩) (by assumption) ?_
  rotate_left
  focus
   intro w hSw
   (try dsimp only at hSw)
   (try go_split_ands)
   go_simp
   try with_reducible rfl
  (try simp only [Act.put, l_t, l_s, l_z, s_t, s_z, s_s])
  refine AnyQ.take (i := 10) (v := ?_) rfl (by kernel_rfl) (by kernel_rfl) (by kernel_rfl) (by kernel_rfl) rfl (fun _ _ _ h => h) (Or.inl ⟨by rfl, ?_⟩) (by assumption) ?_
  rotate_left
  focus
   intro w hSw
   (try dsimp only at hSw)
   (try go_split_ands)
   go_simp
   try with_reducible rfl
  (try simp only [Act.put, l_t, l_s, l_z, s_t, s_z, s_s])
  refine AnyQ.take (i := 11) (v := ?_) rfl (by kernel_rfl) (by kernel_rfl) (by kernel_rfl) (by kernel_rfl) rfl (fun _ _ _ h => h) (Or.inl ⟨by rfl, ?_⟩) (by assumption) ?_
  rotate_left
  focus
   intro w hSw
   (try dsimp only at hSw)
   (try go_split_ands)
   go_simp
   try with_reducible rfl
  (try simp only [Act.put, l_t, l_s, l_z, s_t, s_z, s_s])
  refine AnyQ.take (i := 12) (v := ?_) rfl (by kernel_rfl) (by kernel_rfl) (by kernel_rfl) (by kernel_rfl) rfl (fun _ _ _ h => h) (Or.inl ⟨by rfl, ?_⟩) (by assumption) ?_
  rotate_left
  focus
   intro w hSw
   (try dsimp only at hSw)
   (try go_split_ands)
   go_simp
   try with_reducible rfl
  (try simp only [Act.put, l_t, l_s, l_z, s_t, s_z, s_s])
  refine AnyQ.take (i := 13) (v := ?_) rfl (by kernel_rfl) (by kernel_rfl) (by kernel_rfl) (by kernel_rfl) rfl (fun _ _ _ h => h) (Or.inl ⟨by rfl, ?_⟩) (by assumption) ?_
  rotate_left
  focus
   intro w hSw
   (try dsimp only at hSw)
   (try go_split_ands)
   go_simp
   try with_reducible rfl
  (try simp only [Act.put, l_t, l_s, l_z, s_t, s_z, s_s])
  refine AnyQ.take (i := 14) (v := ?_) rfl (by kernel_rfl) (by kernel_rfl) (by kernel_rfl) (by kernel_rfl) rfl (fun _ _ _ h => h) (Or.inl ⟨by rfl, ?_⟩) (by assumption) ?_
  rotate_left
  focus
   intro w hSw
   (try dsimp only at hSw)
   (try go_split_ands)
   go_simp
   try with_reducible rfl
  (try simp only [Act.put, l_t, l_s, l_z, s_t, s_z, s_s])
  refine AnyQ.take (i := 15) (v := ?_) rfl (by kernel_rfl) (by kernel_rfl) (by kernel_rfl) (by kernel_rfl) rfl (fun _ _ _ h => h) (Or.inl ⟨by rfl, ?_⟩) (by assumption) ?_
  rotate_left
  focus
   intro w hSw
   (try dsimp only at hSw)
   (try go_split_ands)
   go_simp
   try with_reducible rfl
  (try simp only [Act.put, l_t, l_s, l_z, s_t, s_z, s_s])
  refine AnyQ.take (i := 16) (v := ?_) rfl (by kernel_rfl) (by kernel_rfl) (by kernel_rfl) (by kernel_rfl) rfl (fun _ _ _ h => h) (Or.inl ⟨by rfl, ?_⟩) (by assumption) ?_
  rotate_left
  focus
   intro w hSw
   (try dsimp only at hSw)
   (try go_split_ands)
   go_simp
   try with_reducible rfl
  (try simp only [Act.put, l_t, l_s, l_z, s_t, s_z, s_s])
  refine AnyQ.take (i := 17) (v := ?_) rfl (by kernel_rfl) (by kernel_rfl) (by kernel_rfl) (by kernel_rfl) rfl (fun _ _ _ h => h) (Or.inl ⟨by rfl, ?_⟩) (by assumption) ?_
  rotate_left
  focus
   intro w hSw
   (try dsimp only at hSw)
   (try go_split_ands)
   go_simp
   try with_reducible rfl
  (try simp only [Act.put, l_t, l_s, l_z, s_t, s_z, s_s])
  refine AnyQ.take (i := 19) (v := ?_) rfl (by kernel_rfl) (by kernel_rfl) (by kernel_rfl) (by kernel_rfl) rfl (fun _ _ _ h => h) (Or.inl ⟨by rfl, ?_⟩) (by assumption) ?_
  rotate_left
  focus
   intro w hSw
   (try dsimp only at hSw)
   (try go_split_ands)
   go_simp
   try with_reducible rfl
  (try simp only [Act.put, l_t, l_s, l_z, s_t, s_z, s_s])
  refine AnyQ.take (i := 20) (v := ?_) rfl (by kernel_rfl) (by kernel_rfl) (by kernel_rfl) (by kernel_rfl) rfl (fun _ _ _ h => h) (Or.inl ⟨by rfl, ?_⟩) (by assumption) ?_
  rotate_left
  focus
   intro w hSw
   (try dsimp only at hSw)
   (try go_split_ands)
   go_simp
   try with_reducible rfl
  (try simp only [Act.put, l_t, l_s, l_z, s_t, s_z, s_s])
  refine AnyQ.take (i := 21) (v := ?_) rfl (by kernel_rfl) (by kernel_rfl) (by kernel_rfl) (by kernel_rfl) rfl (fun _ _ _ h => h) (Or.inl ⟨by rfl, ?_⟩) (by assumption) ?_
  rotate_left
  focus
   intro w hSw
   (try dsimp only at hSw)
   (try go_split_ands)
   go_simp
   try with_reducible rfl
  (try simp only [Act.put, l_t, l_s, l_z, s_t, s_z, s_s])
  clear hw1 x1 x3 x9 x10 x11 x5 x6
  refine AnyQ.one (i := 18) (by kernel_rfl) rfl (fun K hK => ?_)
  go_simp
  refine (HCF.out _ ((Below.refl _ _).drew)).mono ?_
  rintro e w7 ⟨a', n', c', ts, rfl, h7, hk7, hl7, hn7, hb7⟩
  have hB7 : Below w1.heap.size w1 w7 := (Below.refl _ _).drew.on hb7
  have kc : ∀ {a : Addr} {v : Value}, w1.cell? a = some v → w7.cell? a = some v := fun {a v} h => (hB7.cell (World.block_lt_of_cell? w1 a h)).trans h
  have hS7 : w7.cell? ⟨W.heap.size, 0, none⟩ = some (.slice (some ⟨g, o, none⟩) (m + 2) cv) ∧ w7.cell? ⟨wr.heap.size, 0, none⟩ = some (.int .i64 (j : Int)) ∧ w7.cell? ⟨W.heap.size + 1 + 1 + 1 + 1 + 1 + 1 + 1, j, none⟩ = some (.func (.func fn) #[] caps) ∧ w7.cell? ⟨g, o + m * 2, none⟩ = some (.slice p0.a p0.n p0.c) ∧ w7.cell? ⟨g, o + (m + 1) * 2, none⟩ = some (.slice p1.a p1.n p1.c) := ⟨kc c, kc d0, kc HFV.out, kc t0, kc t1⟩
  have KC : Hid (∀ (a : Addr) (v : Value), w7.cell? a = some v → (w7.alloc (.cells #[.slice a' n' c', .bool ((j : Int) == 9)] 199)).cell? a = some v) := Lib.hid fun a v h => (World.cell?_alloc_lt _ _ _ (World.block_lt_of_cell? w7 a h)).trans h
  have HN7 := Lib.hid (hn7.on ((Below.refl _ _).drew : Below w1.heap.size w1 w1.drew))
  have HP7 := Lib.hid (HPW.out.below hB7)
  have HT7 : Hid (PtT w7 W.heap.size (.slice (some ⟨g, o, none⟩) (m + 2) cv) ⟨a', n', c', ts, ((j : Int) == 9)⟩) := Lib.hid (ptT_new HPW.out h7 hk7 HN7.out)
  have HO7 := Lib.hid (own_take encP_len HP7.out.own (m := m) (by rw [HN.out]; omega))
  have HB7 := Lib.hid ((HB.out.on HA1.out).on hB7)
  have c7 := (HP7.out.box.cell 0)
  have l8 := HP7.out.six.tb.lt
  clear kc hS hn7 h7 hk7 hB7 hb7 c f d0 d1 t0 t1 HCF hen
  refine hK.out _ _ (fun _ => hS7) ?_
  clear hK K
  (try simp only [Act.put, l_t, l_s, l_z, s_t, s_z, s_s])
  refine AnyQ.take (i := 22) (v := ?_) rfl (by kernel_rfl) (by kernel_rfl) (by kernel_rfl) (by kernel_rfl) rfl (fun _ _ _ h => h) (Or.inl ⟨by rfl, ?_⟩) (by assumption) ?_
  rotate_left
  focus
   intro w hSw
   (try dsimp only at hSw)
   (try go_split_ands)
   go_simp
   try with_reducible rfl
  (try simp only [Act.put, l_t, l_s, l_z, s_t, s_z, s_s])
  refine AnyQ.one (i := 23) (by kernel_rfl) rfl (fun K hK => ?_)
  go_simp
  refine hK.out _ _ (fun _ => ⟨KC.out _ _ hS7.1, KC.out _ _ hS7.2.1, KC.out _ _ hS7.2.2.1, KC.out _ _ hS7.2.2.2.1, KC.out _ _ hS7.2.2.2.2⟩) ?_
  clear hK K
  (try simp only [Act.put, l_t, l_s, l_z, s_t, s_z, s_s])
  refine AnyQ.one (i := 24) (by kernel_rfl) rfl (fun K hK => ?_)
  refine step_append_own2 rfl _ _ 193 rfl (W.heap.size + 8) 199 i9 _ 2 32 Tryz.underlying193 hi9 hz90 hz91 hz92 rfl (by decide) _ _ _ (HO7.out.alloc _) rfl ⟨_, 0, none⟩ 1 1 [.slice a' n' c', .bool ((j : Int) == 9)] rfl rfl (news2 _ _ _ _ _ rfl) (by simp [Value.oneCell']) (by unfold maxLen; omega) (by omega) (by first | omega | (simp; omega)) ?_
  intro v' w8 hown' hgrow hfr
  obtain ⟨av', cv', rfl, _, _⟩ := own_slice hown'
  obtain ⟨cq, fq, lq⟩ := PtW.far (HP7.out.below (al0 _ _ _)) hgrow
  refine hK.out _ _ (fun h => absurd ((show _ = true from by kernel_rfl).symm.trans h) (by simp)) ?_
  clear hK K
  (try simp only [Act.put, l_t, l_s, l_z, s_t, s_z, s_s])
  refine AnyQ.one (i := 25) (by kernel_rfl) rfl (fun K hK => ?_)
  go_simp
  refine hK.out _ _ (fun h => absurd ((show _ = true from by kernel_rfl).symm.trans h) (by simp)) ?_
  clear hK K
  (try simp only [Act.put, l_t, l_s, l_z, s_t, s_z, s_s])
  refine AnyQ.done (by kernel_rfl) ?_ _
  go_wp2_with fail
  go_roundw
  case rel =>
   have hT := HT7.out.below (al0 w7 #[.slice a' n' c', .bool ((j : Int) == 9)] 199)
   have hY := HP7.out.below (al0 w7 #[.slice a' n' c', .bool ((j : Int) == 9)] 199)
   have hBY : Below W.heap.size W _ := HB7.out.on (al0 w7 #[.slice a' n' c', .bool ((j : Int) == 9)] 199)
   exact ⟨k + 1, _, ps.take m ++ [_], by go_num, by omega, len_put HN.out hNk, hY.put hT (by rw [HN.out]; omega) (sum_put HPR.out.sum (by rw [HD2.out]; exact hl7)) hown' hgrow hfr, Lib.hid (HST.out _ rfl), (hBY.grown hgrow hBY.size (fun b e => by have := (hY.lt b e).1; omega)).setCell (Nat.le_refl _) _⟩
  case measure => simp [intOf]; omega
end Go.Proofs.YtehoidohallfcaaGreatDoor
