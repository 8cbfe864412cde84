/- Contract of ranking.Orders. -/
import Derived.Test.YtehoidohallfcaaGreatDoorOrX
import Derived.Test.YtehoidohallfcaaGreatDoorKrX
namespace Go.Proofs.YtehoidohallfcaaGreatDoor
open Go.RowKit Go.Shelf
attribute [local go_sem] Oper.semAt_some
theorem ElemsB.nth {w : World} {base : Nat} {row : Option Nat} {us : List Value} {ls : List (List Int)} (h : ElemsB w base row us ls) {j : Nat} {l : List Int} (hl : ls[j]? = some l) : ∃ u, us[j]? = some u ∧ ElemB w base row u l := by
 have hlen := h.get.1
 have hj := (List.getElem?_eq_some_iff.1 hl).1
 exact ⟨_, List.getElem?_eq_getElem (by omega), h.get.2 j _ l (List.getElem?_eq_getElem (by omega)) hl⟩
theorem RowsB.row {w : World} {base : Nat} {e : TypeId} {a : Option Addr} {n c j : Nat} {ll : List (List Int)} {l : List Int} (h : RowsB w base e (.slice a n c) ll) (hl : ll[j]? = some l) :
 ∃ b o ai ni ci, a = some ⟨b, o, none⟩ ∧ base ≤ b ∧ b < w.heap.size ∧ w.cell? ⟨b, o + j, none⟩ = some (.slice ai ni ci) ∧ Ints w ai ni ci l ∧ ∀ q, 0 < ni → (Value.slice ai ni ci).ownBlock = some q → base ≤ q := by
 obtain ⟨us, h1, h2⟩ := h
 obtain ⟨u, hu, ai, ni, ci, rfl, hI, ho⟩ := h2.nth hl
 have hj := (List.getElem?_eq_some_iff.1 hl).1
 rcases h1.2 with ⟨_, h0⟩ | ⟨g, cap, cur, hv, hb, hg, _⟩
 · omega
 · injection hv with e1 e2 e3
   subst e1
   refine ⟨g, 0, ai, ni, ci, rfl, hb, (Array.getElem?_eq_some_iff.1 hg).1, ?_, hI, fun q hn e => (ho hn).2 q e⟩
   subst e2 e3
   rw [Nat.zero_add, h1.cellAt j (by rw [Nat.mul_one]; exact hj), hu]
theorem places_ok {iv : Iv} (h : OkIv iv) {q : List Int} (hq : q ∈ posL iv) : q.length = iv.length ∧ ∀ x ∈ q, 0 ≤ x ∧ x ≤ iv.length := by
 obtain ⟨t, ht, _, rfl⟩ := posL_sound h hq
 have hl : t.length = iv.length := ht.1
 refine ⟨by unfold placesL; rw [List.length_map, hl], fun x hx => ?_⟩
 unfold placesL at hx
 obtain ⟨y, hy, rfl⟩ := List.mem_map.1 hx
 have h1 : lessN t y ≤ t.length := List.length_filter_le _ _
 have h2 : lessN t y < t.length := by
  refine Nat.lt_of_le_of_ne h1 fun e => ?_
  have := List.length_filter_eq_length_iff.1 e y hy
  simp at this
 omega
def RetO (W : World) (E : Int) (ll : List (List Int)) (e : Ending) (w' : World) : Prop := ∃ a n c, e = .returned (.tuple #[.slice a n c, .int .i64 E]) ∧ RowsN w' W.heap.size a n c ll ∧ Below W.heap.size W w'
theorem box3 (W : World) (c1 c2 c3 : Array Value) (t1 t2 t3 : TypeId) : Box (((W.alloc (.cells c1 t1)).alloc (.cells c2 t2)).alloc (.cells c3 t3)) W.heap.size c1 t1 ∧ Box (((W.alloc (.cells c1 t1)).alloc (.cells c2 t2)).alloc (.cells c3 t3)) (W.heap.size + 1) c2 t2 ∧ Box (((W.alloc (.cells c1 t1)).alloc (.cells c2 t2)).alloc (.cells c3 t3)) (W.heap.size + 1 + 1) c3 t3 ∧ Below W.heap.size W (((W.alloc (.cells c1 t1)).alloc (.cells c2 t2)).alloc (.cells c3 t3)) :=
 ⟨((box_at W _ _ _ rfl).alloc _).alloc _, (box_at _ _ _ _ (by simp)).alloc _, box_at _ _ _ _ (by simp), ((((Below.refl _ _).alloc (Nat.le_refl _) _).alloc (by simp) _).alloc (by simp; omega) _)⟩
structure OrW (S : Sp) (W w : World) (v : Value) : Prop where
 b1 : Box w W.heap.size #[.int .i64 S.sh.cs, .int .i64 S.sh.ps, .slice S.la S.ln S.lc, .slice S.ca S.cn S.cc, .slice S.pa S.pn S.pc, .slice S.ra S.rn S.rc] 25
 b2 : Box w (W.heap.size + 1) #[v] 106
 b3 : Box w (W.heap.size + 1 + 1) #[.int .i64 0] 30
 bel : Below W.heap.size W w
theorem OrW.below {S : Sp} {W w w' : World} {v : Value} (h : OrW S W w v) (hb : Below w.heap.size w w') : OrW S W w' v := ⟨h.b1.below hb, h.b2.below hb, h.b3.below hb, h.bel.on hb⟩
theorem OrW.grown {S : Sp} {W w w' : World} {v : Value} {row : Option Nat} (h : OrW S W w v) (hg : w.grownBy w' row) (hr : ∀ j, row = some j → W.heap.size + 3 ≤ j) : OrW S W w' v :=
 ⟨h.b1.grown hg (fun e => by have := hr _ e; omega), h.b2.grown hg (fun e => by have := hr _ e; omega), h.b3.grown hg (fun e => by have := hr _ e; omega), h.bel.grown hg h.bel.size (fun b e => by have := hr b e; omega)⟩
theorem grown_of_below {w w' : World} (h : Below w.heap.size w w') (row : Option Nat) : w.grownBy w' row := ⟨h.1, h.2, h.3, h.size, fun k hk _ => h.block k hk⟩
theorem Rows.nonCell {w w' : World} {a : Option Addr} {n c : Nat} {ll : List (List Int)} {row : Option Nat} (h : Rows w a n c ll) (hg : w.grownBy w' row) (hr : ∀ r, row = some r → ∃ o : Obj, w.heap[r]? = some o ∧ o.isCells = false) : Rows w' a n c ll where
 len := h.len
 cap := h.cap
 mx := h.mx
 at' := fun hn => let ⟨b, o, e, hl⟩ := h.at' hn; ⟨b, o, e, Nat.lt_of_lt_of_le hl hg.size⟩
 row := fun b o e i hi => by
  obtain ⟨ai, ni, ci, hc, hI⟩ := h.row b o e i hi
  obtain ⟨b', o', e', hl⟩ := h.at' (by omega)
  rw [e] at e'
  obtain ⟨rfl, rfl⟩ : b = b' ∧ o = o' := by simpa using e'
  refine ⟨ai, ni, ci, (World.cell?_of_block (w := w) (hg.block b hl fun e2 => ?_)).trans hc, hI.grown hg fun hn e2 => ?_⟩
  · obtain ⟨x, hx, hxc⟩ := hr b e2.symm
    have := cells_of_cell hc hx
    rw [hxc] at this; cases this
  · obtain ⟨b2, o2, rfl, hl2⟩ := hI.at' hn
    obtain ⟨x, hx, hxc⟩ := hr b2 e2.symm
    have := cells_of_cell (hI.cell b2 o2 rfl 0 hn) hx
    rw [hxc] at this; cases this
theorem RowsN.nonCell {w w' : World} {base : Nat} {a : Option Addr} {n c : Nat} {ll : List (List Int)} {row : Option Nat} (h : RowsN w base a n c ll) (hg : w.grownBy w' row) (hr : ∀ r, row = some r → ∃ o : Obj, w.heap[r]? = some o ∧ o.isCells = false) : RowsN w' base a n c ll where
 rows := h.rows.nonCell hg hr
 nb := h.nb
 rn := fun b o e i hi ai ni ci hc => by
  obtain ⟨ai2, ni2, ci2, hc2, _⟩ := h.rows.row b o e i hi
  obtain ⟨b', o', e', hl⟩ := h.rows.at' (by omega)
  rw [e] at e'
  obtain ⟨rfl, rfl⟩ : b = b' ∧ o = o' := by simpa using e'
  have hk : w'.cell? ⟨b, o + i, none⟩ = w.cell? ⟨b, o + i, none⟩ := World.cell?_of_block (w := w) (hg.block b hl fun e2 => by
   obtain ⟨x, hx, hxc⟩ := hr b e2.symm
   have := cells_of_cell hc2 hx
   rw [hxc] at this; cases this)
  exact h.rn b o e i hi ai ni ci (by rw [← hk]; exact hc)
theorem RowsN.mono {w : World} {base base' : Nat} {a : Option Addr} {n c : Nat} {ll : List (List Int)} (h : RowsN w base a n c ll) (hb : base' ≤ base) : RowsN w base' a n c ll :=
 ⟨h.rows, fun hn b o e => Nat.le_trans hb (h.nb hn b o e), fun b o e i hi ai ni ci hc hn q hq => Nat.le_trans hb (h.rn b o e i hi ai ni ci hc hn q hq)⟩
theorem RowsN.grown {w w' : World} {base : Nat} {a : Option Addr} {n c : Nat} {ll : List (List Int)} {row : Option Nat} (h : RowsN w base a n c ll) (hg : w.grownBy w' row) (hr : ∀ b, row = some b → b < base) : RowsN w' base a n c ll := by
 have hk : ∀ b o, a = some ⟨b, o, none⟩ → ∀ i, i < n → w'.cell? ⟨b, o + i, none⟩ = w.cell? ⟨b, o + i, none⟩ := fun b o e i hi => by
  obtain ⟨b', o', e', hl⟩ := h.rows.at' (by omega)
  rw [e] at e'
  obtain ⟨rfl, rfl⟩ : b = b' ∧ o = o' := by simpa using e'
  exact World.cell?_of_block (w := w) (hg.block b hl fun e2 => by have := hr b e2.symm; have := h.nb (by omega) b o e; omega)
 refine ⟨⟨h.rows.len, h.rows.cap, h.rows.mx, fun hn => ?_, fun b o e i hi => ?_⟩, h.nb, fun b o e i hi ai ni ci hc => h.rn b o e i hi ai ni ci (by rw [← hk b o e i hi]; exact hc)⟩
 · obtain ⟨b, o, e, hl⟩ := h.rows.at' hn
   exact ⟨b, o, e, Nat.lt_of_lt_of_le hl hg.size⟩
 · obtain ⟨ai, ni, ci, hc, hI⟩ := h.rows.row b o e i hi
   refine ⟨ai, ni, ci, by rw [hk b o e i hi]; exact hc, hI.grown hg fun hn e2 => ?_⟩
   obtain ⟨b2, o2, e3, _⟩ := hI.at' hn
   have e4 : (Value.slice ai ni ci).ownBlock = some b2 := by rw [e3]; rfl
   have h1 := h.rn b o e i hi ai ni ci hc hn b2 e4
   have h2 := hr b2 (by rw [← e2, e4])
   omega
theorem setCell_self {w : World} {B : Nat} {v : Value} {t : TypeId} (h : Box w B #[v] t) : w.setCell ⟨B, 0, none⟩ v = w := by
 have hlt := h.lt
 have h' : w.heap[B] = .cells #[v] t (0, 0) := by have := h; unfold Box at this; simpa [Array.getElem?_eq_getElem hlt] using this
 have hh : (w.setCell ⟨B, 0, none⟩ v).heap = w.heap := by
  apply Array.ext
  · simp [World.setCell]
  · intro i h1 h2
    by_cases e : B = i
    · subst e
      have h3 : Box (w.setCell ⟨B, 0, none⟩ v) B (#[v].setIfInBounds 0 v) t := h.set 0 v
      unfold Box at h3
      rw [Array.getElem?_eq_getElem h1] at h3
      injection h3 with h3
      rw [h3, h']; simp
    · have h3 : (w.setCell ⟨B, 0, none⟩ v).heap[i]? = w.heap[i]? := Below.heap_setCell w _ v i (fun e2 => e e2.symm)
      rw [Array.getElem?_eq_getElem h1, Array.getElem?_eq_getElem h2] at h3
      injection h3
 have h5 : ∀ X Y : World, X.heap = Y.heap → X.tape = Y.tape → X.drawn = Y.drawn → X.os = Y.os → X.output = Y.output → X = Y := by
  rintro ⟨⟩ ⟨⟩ h1 h2 h3 h4 h5
  simp_all
 exact h5 _ _ hh rfl rfl rfl rfl
theorem box_take {w : World} {b : Nat} {x : List Int} {t : TypeId} (h : Box w b (tA x) t) (hx : x.length = 8) {c : Nat} (hc : c ≤ 8) : Ints w (some ⟨b, 0, none⟩) c 8 (x.take c) where
 len := by rw [List.length_take, hx]; omega
 cap := hc
 mx := by unfold maxLen; omega
 at' := fun _ => ⟨_, _, rfl, h.lt⟩
 cell := fun b' o e i hi => by
  injection e with e
  injection e with e1 e2
  subst e1 e2
  rw [Nat.zero_add, h.cell i, tA_get (by omega), List.getElem?_take, if_pos hi, List.getD_eq_getElem?_getD]
theorem keepsO {w w' : World} {row : Option Nat} (hg : w.grownBy w' row) (hr : ∀ r, row = some r → ∃ o : Obj, w.heap[r]? = some o ∧ o.isCells = true) : KeepsOthers w w' :=
 ⟨hg.size, fun k o hk ho => (hg.block k (Array.getElem?_eq_some_iff.1 hk).1 (fun e => by
  obtain ⟨x, hx, hc⟩ := hr k e.symm
  rw [hk] at hx; injection hx with hx; subst hx
  rw [ho] at hc; cases hc)).trans hk⟩
theorem own_cells {w : World} {base n size : Nat} {e : TypeId} {v : Value} {xs : List Value} (h : w.ownsRow base e size v n xs) : ∀ r, v.ownBlock = some r → ∃ o : Obj, w.heap[r]? = some o ∧ o.isCells = true := fun r e => by
 rcases h.2 with ⟨rfl, _⟩ | ⟨g, cap, cur, rfl, _, hg, _⟩
 · cases e
 · injection e with e; subst e; exact ⟨_, hg, rfl⟩
theorem keepsW {w w' : World} (h : KeepsOthers w w') : KeepsWalks w w' := ⟨h.size, fun k o hk hw => h.same k o hk (Obj.not_cells_of_walk hw)⟩
theorem OrW.put {S : Sp} {W w : World} {v : Value} (h : OrW S W w v) (v' : Value) : OrW S W (w.setCell ⟨W.heap.size + 1, 0, none⟩ v') v' where
 b1 := h.b1.setOther _ (by simp)
 b2 := by have := h.b2.set 0 v'; simpa using this
 b3 := h.b3.setOther _ (by simp)
 bel := h.bel.setCell (by simp) _
theorem take_back {al0 : List (List Int)} {c d : Nat} {al xs : List (List Int)} (hl : ∀ t ∈ al0, t.length = c) (ha : al = al0.map fun t => t ++ List.replicate d 0) (hm : ∀ k, k ∈ xs ↔ k ∈ al) (hn : xs.Nodup) : (xs.map fun x => x.take c).Nodup ∧ ∀ y, y ∈ (xs.map fun x => x.take c) ↔ y ∈ al0 := by
 have key : ∀ k ∈ xs, ∃ t ∈ al0, k = t ++ List.replicate d 0 ∧ k.take c = t := fun k hk => by
  have := (hm k).1 hk
  rw [ha] at this
  obtain ⟨t, ht, rfl⟩ := List.mem_map.1 this
  exact ⟨t, ht, rfl, by rw [← hl t ht]; exact List.take_left⟩
 constructor
 · unfold List.Nodup
   rw [List.pairwise_map]
   refine (List.pairwise_iff_forall_sublist.2 fun {a b} hs => ?_)
   have hab : a ≠ b := List.pairwise_iff_forall_sublist.1 hn hs
   have hax : a ∈ xs := hs.subset (by simp)
   have hbx : b ∈ xs := hs.subset (by simp)
   obtain ⟨t, ht, e1, e2⟩ := key a hax
   obtain ⟨u, hu, e3, e4⟩ := key b hbx
   rw [e2, e4]
   intro e
   exact hab (by rw [e1, e3, e])
 · intro y
   constructor
   · intro hy
     obtain ⟨k, hk, rfl⟩ := List.mem_map.1 hy
     obtain ⟨t, ht, _, e⟩ := key k hk
     rw [e]; exact ht
   · intro hy
     have hk : y ++ List.replicate d 0 ∈ xs := (hm _).2 (by rw [ha]; exact List.mem_map.2 ⟨y, hy, rfl⟩)
     refine List.mem_map.2 ⟨_, hk, ?_⟩
     rw [← hl y hy]; exact List.take_left
set_option maxHeartbeats 8000000 in
set_option maxRecDepth 100000 in
theorem orders_any (S : Sp) (al : Option Addr) (nl cl : Nat) (l : List Rs) (W : World) (ht : Tab W) (hS : S.In W) (h0 : SL encRs 6 W al nl cl l) (h4 : S.sh.cs ≤ 4) :
 Calls Tryz.prog 52 #[.agg #[.int .i64 S.sh.cs, .int .i64 S.sh.ps, .slice S.la S.ln S.lc, .slice S.ca S.cn S.cc, .slice S.pa S.pn S.pc, .slice S.ra S.rn S.rc], .slice al nl cl] W (RetO W (rankE S.sh l) (ordR S.sh l)) := by
 obtain ⟨hx1, hx2, hx3, hbb⟩ := box3 W #[.int .i64 S.sh.cs, .int .i64 S.sh.ps, .slice S.la S.ln S.lc, .slice S.ca S.cn S.cc, .slice S.pa S.pn S.pc, .slice S.ra S.rn S.rc] #[.slice none 0 0] #[.int .i64 0] 25 106 30
 obtain ⟨w0, hw0⟩ : ∃ w0, ((W.alloc (.cells #[.int .i64 S.sh.cs, .int .i64 S.sh.ps, .slice S.la S.ln S.lc, .slice S.ca S.cn S.cc, .slice S.pa S.pn S.pc, .slice S.ra S.rn S.rc] 25)).alloc (.cells #[.slice none 0 0] 106)).alloc (.cells #[.int .i64 0] 30) = w0 := ⟨_, rfl⟩
 rw [hw0] at hx1 hx2 hx3 hbb
 have hck := rkCheck_any ptC S al nl cl l w0 (ht.below hbb) (hS.below hbb) (h0.below hbb)
 have HCK := Lib.hid hck
 have HW0 := Lib.hid hw0
 have hmf : ∀ (fn : Fn) (first cap : Array Value) (w : World), (Instr.makeFunc fn first cap).run Tryz.prog w = .ok (.func fn first cap) w := fun _ _ _ _ => rfl
 have hmk := fun w => run_makeMap (P := Tryz.prog) 163 w
 clear hck hw0
 obtain ⟨d0, d1, d2, d3, d4, d5⟩ := hx1.g6
 refine (callsIn_wide (n := 9)).1 (callsIn_of_wp_marks Tryz.func52 rfl trivial ?_ rfl)
 simp only [Tryz.ntmps52, List.size_toArray, List.length_cons, List.length_nil, Nat.reduceAdd, Nat.reduceSub, Array.replicate_succ, Array.replicate_zero, List.push_toArray, List.append_toArray, List.nil_append, List.cons_append]
 refine wpIn_wide.2 ?_
 by_cases he : rkE S.sh l = 0
 rotate_left
 · obtain ⟨E, hE⟩ : ∃ E, rkE S.sh l = E := ⟨_, rfl⟩
   have HR := Lib.hid (ordE_bad he)
   rw [hE] at HR he HCK
   have g1 : (E != 0) = true := by simpa using he
   clear hE he
   go_wp2_with fail
   rw [HW0.out]
   go_wp2_with fail
   refine HCK.out.mono ?_
   rintro e w1 ⟨rfl, hB1⟩
   have hx2 := hx2.below hB1
   have hx3 := hx3.below hB1
   have c2 := hx2.cell 0
   have f2 := hx2.frozen 0
   have l2 := hx2.lt
   have c3 := hx3.cell 0
   have f3 := hx3.frozen 0
   have l3 := hx3.lt
   simp only [List.getElem?_toArray, List.getElem?_cons_zero] at c2 c3
   clear d0 d1 d2 d3 d4 d5
   go_wp2_with fail
   have hy2 := ((hx2.set 0 (.slice none 0 0)).setOther (a := ⟨W.heap.size + 1 + 1, 0, none⟩) (.int .i64 E) (by simp)).cell 0
   have hy3 := ((hx3.setOther (a := ⟨W.heap.size + 1, 0, none⟩) (.slice none 0 0) (by simp)).set 0 (.int .i64 E)).cell 0
   simp at hy2 hy3
   refine ⟨.tuple #[.slice none 0 0, .int .i64 E], by simp [results, Tryz.results52, go_sem, hy2, hy3], none, 0, 0, by rw [HR.out.1], by rw [HR.out.2]; exact RowsN.nil _ _, below_set (below_set (hbb.on hB1) (by omega) _) (by omega) _⟩
 have hok := okIn_of he
 obtain ⟨⟨k1, k2⟩, ⟨k3, k4⟩, _⟩ := hok.parts
 have HOK := Lib.hid hok
 have HE := Lib.hid he
 rw [he] at HCK
 clear hok he
 go_wp2_with fail
 rw [HW0.out]
 go_wp2_with fail
 refine HCK.out.mono ?_
 rintro e w1 ⟨rfl, hB1⟩
 have hx1 := hx1.below hB1
 have hx2 := hx2.below hB1
 have hx3 := hx3.below hB1
 have hbb := hbb.on hB1
 have hbm := BMap.made tV okT w1
 clear d0 d1 d2 d3 d4 d5
 obtain ⟨w2, hput, hM0, hg2, -⟩ := hbm.put tot_key [0, 0, 0, 0, 0, 0, 0, 0] ⟨rfl, by decide⟩
 have hOW : OrW S W w1 (.slice none 0 0) := ⟨hx1, hx2, hx3, hbb⟩
 have hW1 := hx3.lt
 have hOW2 : OrW S W w2 (.slice none 0 0) := (hOW.below ((Below.refl _ _).alloc (Nat.le_refl _) (.map #[] 0))).grown hg2 (fun j e => by injection e with e; omega)
 simp only [tV, tA, List.map_cons, List.map_nil] at hput
 have hM0' : TMap w2 w1.heap.size [[0, 0, 0, 0, 0, 0, 0, 0]] := hM0
 have HM0 := Lib.hid hM0'
 have HOW2 := Lib.hid hOW2
 obtain ⟨PS, hPS⟩ : ∃ PS : Nat, S.sh.ps = (PS : Int) := ⟨S.sh.ps.toNat, by omega⟩
 have HPS := Lib.hid hPS
 have hPS8 : PS ≤ 8 := by omega
 clear hg2 hM0 hM0' hOW hOW2 hx1 hx2 hx3 hbb hB1 hbm hPS
 obtain ⟨d0, d1, d2, d3, d4, d5⟩ := HOW2.out.b1.g6
 rw [HPS.out] at d1
 go_wp2_with fail
 clear hput d0 d1 d2 d3 d4 d5
 obtain ⟨M0, hM0e⟩ : ∃ M0, w1.heap.size = M0 := ⟨_, rfl⟩
 rw [hM0e] at HM0 hW1 ⊢
 clear hM0e
 go_loopw [7, 27] (fun x7 i wr => ∃ (p M : Nat) (ks al : List (List Int)), i = .int .i64 p ∧ x7 = .map (some M) ∧ p ≤ PS ∧ W.heap.size + 3 ≤ M ∧ OrW S W wr (.slice none 0 0) ∧ TMap wr M ks ∧ Hid (ordTo S.sh l 8 p = some al) ∧ Hid (∀ x, x ∈ ks ↔ x ∈ al) ∧ ks.length ≤ 4096) (fun _ i _ => PS - (intOf i).toNat)
 case atStart => exact ⟨0, M0, [[0, 0, 0, 0, 0, 0, 0, 0]], [[0, 0, 0, 0, 0, 0, 0, 0]], rfl, rfl, by omega, by omega, HOW2.out, HM0.out, Lib.hid rfl, Lib.hid (fun x => Iff.rfl), by simp⟩
 case round =>
  clear HOW2 HM0 hW1
  obtain ⟨p, M, ks, al8, rfl, rfl, hp, hMW, hOW, hM, HO, HKS, hkl⟩ := hrel
  have HOW := Lib.hid hOW
  have HM := Lib.hid hM
  have hMl := hM.lt
  by_cases hpP : p < PS
  rotate_left
  · obtain rfl : PS = p := by omega
    obtain ⟨al00, ho1, ho2, ho3, ho4⟩ := ord8_some HOK.out.rs k1 k2 (by rw [HPS.out, Int.toNat_natCast]; exact HO.out)
    obtain ⟨cN, hcN⟩ : ∃ cN : Nat, S.sh.cs = (cN : Int) := ⟨S.sh.cs.toNat, by omega⟩
    have hc4 : cN ≤ 4 := by omega
    have hc0 : 1 ≤ cN := by omega
    rw [hcN, Int.toNat_natCast] at ho2 ho3
    have HRES := Lib.hid (ordE_some HE.out ho1)
    have HAL := Lib.hid ho2
    have HALL := Lib.hid ho3
    have HALN := Lib.hid ho4
    have HCN := Lib.hid hcN
    have HNDK := Lib.hid hM.nodup
    have HKOK := Lib.hid hM.keys
    clear ho1 ho2 ho3 ho4 hcN hOW hM
    go_wp2_with fail
    refine (keysM_any _ _).mono ?_
    rintro e w' ⟨rfl, rfl⟩
    have hbk := Box.new wr #[.map (some M)] 163
    have hbl : Below wr.heap.size wr (wr.alloc (.cells #[.map (some M)] 163)) := (Below.refl _ _).alloc (Nat.le_refl _) _
    have HMm := Lib.hid (HM.out.below hbl)
    have HOWm := Lib.hid (HOW.out.below hbl)
    obtain ⟨Bk, hBk⟩ : ∃ Bk, wr.heap.size = Bk := ⟨_, rfl⟩
    obtain ⟨wm, hwm⟩ : ∃ wm, wr.alloc (.cells #[.map (some M)] 163) = wm := ⟨_, rfl⟩
    rw [hwm] at hbk HMm HOWm ⊢
    rw [hBk] at hbk hMl ⊢
    have hBm := hbk.lt
    clear hbl hwm hBk
    go_wp2_with fail
    have hBW : W.heap.size + 3 ≤ Bk := by omega
    refine wp_range_keys ks Bk M rfl hbk HMm.out (by omega) (fun pre W2 => ∃ v, OrW S W W2 v ∧ RowsB W2 (W.heap.size + 3) 22 v (pre.map fun x => x.val.take cN)) ?hI ?h0 ?hassign ?hbody ?hdone
    case hI =>
     rintro pre X Y row ⟨v, h1, h2⟩ hg hr
     exact ⟨v, h1.grown hg (fun j e => by have := (hr j e).1; omega), h2.nonCell hg (fun r e => (hr r e).2)⟩
    case h0 => exact ⟨_, HOWm.out, RowsB.nil _ _ _⟩
    case hassign =>
     rintro li ⟨x, hx⟩ W2 K hK
     obtain ⟨a0, a1, a2, a3, a4, a5, a6, a7, rfl⟩ := len8 hx
     simp only [tV, tA, List.map_cons, List.map_nil, s_t, s_z, s_s] at hK ⊢
     gi_wp2
     exact hK
    case hbody =>
     rintro li pre ⟨x, hx⟩ b W2 ⟨v, hO, hR⟩ hb hlen
     simp only [s_t, s_z, s_s]
     gi_wp2
     obtain ⟨us, hus, hE⟩ := hR
     obtain ⟨av, cv, rfl, hcap, hmx⟩ := own_slice hus
     have hpl : pre.length ≤ 4096 := by omega
     obtain ⟨N, hN⟩ : ∃ N, (pre.map fun x => x.val.take cN).length = N := ⟨_, rfl⟩
     have hN4 : N ≤ 4096 := by rw [← hN, List.length_map]; exact hpl
     rw [hN] at hus hO hE
     have HN := Lib.hid hN
     have c2 := hO.b2.cell 0
     have f2 := hO.b2.frozen 0
     have l2 := hO.b2.lt
     have l3 := hO.b3.lt
     have cS := hO.b1.cell 0
     simp only [List.getElem?_toArray, List.getElem?_cons_zero] at c2 cS
     rw [HCN.out] at cS
     have hIx := box_take hb hx (c := cN) (by omega)
     have HIX := Lib.hid hIx
     have HE2 := Lib.hid hE
     have HU := Lib.hid hus
     have HO2 := Lib.hid hO
     have y1 : (0 : Int) ≤ (cN : Int) := by omega
     have y2 : (cN : Int) ≤ 8 := by omega
     obtain ⟨i22, hi22, hz220, hz221, hz222⟩ := info_parts info_ints
     clear hN hE hus hO hIx hb
     refine wpIn_region_anyQR (fun w' => w'.cell? ⟨W.heap.size + 1, 0, none⟩ = some (.slice av N cv) ∧ w'.cell? ⟨W.heap.size, 0, none⟩ = some (.int .i64 (cN : Int))) 6 (by kernel_rfl) (by kernel_rfl) ⟨c2, cS⟩ (fun hS => ?_)
     refine AnyQ.take (i := 0) (v := ?_) rfl (by kernel_rfl) (by kernel_rfl) (by kernel_rfl) (by kernel_rfl) rfl NormQ.hq (Or.inl ⟨by rfl, ?_⟩) (by assumption) ?_
     rotate_left
     focus
      intro w hSw
      (try dsimp only at hSw)
      (try go_split_ands)
      go_simp
      try with_reducible rfl
     (try simp only [Act.put, l_t, l_z, s_t, s_z, s_s])
     refine AnyQ.take (i := 1) (v := ?_) rfl (by kernel_rfl) (by kernel_rfl) (by kernel_rfl) (by kernel_rfl) rfl NormQ.hq (Or.inl ⟨by rfl, ?_⟩) (by assumption) ?_
     rotate_left
     focus
      intro w hSw
      (try dsimp only at hSw)
      (try go_split_ands)
      go_simp
      try with_reducible rfl
     (try simp only [Act.put, l_t, l_s, l_z, s_t, s_z, s_s])
     refine AnyQ.take (i := 2) (v := ?_) rfl (by kernel_rfl) (by kernel_rfl) (by kernel_rfl) (by kernel_rfl) rfl NormQ.hq (Or.inl ⟨by rfl, ?_⟩) (by assumption) ?_
     rotate_left
     focus
      intro w hSw
      (try dsimp only at hSw)
      (try go_split_ands)
      go_simp
      try with_reducible rfl
     (try simp only [Act.put, l_t, l_s, l_z, s_t, s_z, s_s])
     refine AnyQ.take (i := 3) (v := ?_) rfl (by kernel_rfl) (by kernel_rfl) (by kernel_rfl) (by kernel_rfl) rfl NormQ.hq (Or.inl ⟨by rfl, ?_⟩) (by assumption) ?_
     rotate_left
     focus
      intro w hSw
      (try dsimp only at hSw)
      (try go_split_ands)
      go_simp
      try with_reducible rfl
     (try simp only [Act.put, l_t, l_s, l_z, s_t, s_z, s_s])
     refine AnyQ.one (i := 4) (by kernel_rfl) rfl (fun K hK => ?_)
     go_simp
     go_at_call 41
     refine (clone_any _ 0 cN 8 (x.take cN) _ (HIX.out.drewN 1) (by omega)).mono ?_
     rintro e w3 ⟨vc, rfl, hcl, hb3⟩
     have hB3 : Below W2.heap.size W2 w3 := (Below.drewN0 W2 1).on hb3
     have hcl' : OwnInts w3 W2.heap.size 3 vc (x.take cN) := hcl
     obtain ⟨ac, cc, rfl, hIc⟩ := hcl'.ints
     have hlc := hcl'.lt
     have HXL : Hid ((x.take cN).length = cN) := Lib.hid (by rw [List.length_take, hx]; omega)
     rw [HXL.out] at hIc hlc
     have HIC := Lib.hid hIc
     have HLC := Lib.hid hlc
     have HB3 := Lib.hid hB3
     have hS3 : w3.cell? ⟨W.heap.size + 1, 0, none⟩ = some (.slice av N cv) ∧ w3.cell? ⟨W.heap.size, 0, none⟩ = some (.int .i64 (cN : Int)) := ⟨(hB3.cell (World.block_lt_of_cell? W2 _ c2)).trans c2, (hB3.cell (World.block_lt_of_cell? W2 _ cS)).trans cS⟩
     have HS4 : Hid ((w3.alloc (.cells #[.slice ac cN cc] 22)).cell? ⟨W.heap.size + 1, 0, none⟩ = some (.slice av N cv) ∧ (w3.alloc (.cells #[.slice ac cN cc] 22)).cell? ⟨W.heap.size, 0, none⟩ = some (.int .i64 (cN : Int))) := Lib.hid ⟨(World.cell?_alloc_lt _ _ _ (World.block_lt_of_cell? w3 _ hS3.1)).trans hS3.1, (World.cell?_alloc_lt _ _ _ (World.block_lt_of_cell? w3 _ hS3.2)).trans hS3.2⟩
     have HU3 := Lib.hid (ownsRow_below' HU.out hB3)
     have hs3 := hB3.size
     clear hS c2 cS hcl hcl' hb3 hB3 hIc hlc
     rw [HXL.out]
     refine hK.out _ _ (fun _ => hS3) ?_
     clear hK K
     (try simp only [Act.put, l_t, l_s, l_z, s_t, s_z, s_s])
     refine AnyQ.one (i := 5) (by kernel_rfl) rfl (fun K hK => ?_)
     go_simp
     refine hK.out _ _ (fun _ => HS4.out) ?_
     clear hK K
     (try simp only [Act.put, l_t, l_s, l_z, s_t, s_z, s_s])
     refine AnyQ.one (i := 6) (by kernel_rfl) rfl (fun K hK => ?_)
     (refine step_append_own2 rfl _ _ 106 rfl (W.heap.size + 3) 22 i22 (.slice none 0 0) 1 24 Tryz.underlying106 hi22 hz220 hz221 hz222 rfl (by decide) _ _ _ (HU3.out.alloc _) rfl ⟨_, 0, none⟩ 1 1 [(.slice ac cN cc)] rfl rfl (cell_one_new _ _ _) (by simp [Value.oneCell']) (by unfold maxLen; omega) (by omega) (by first | omega | (simp; omega)) ?_; intro v' w1 hown' hgrow hfr)
     obtain ⟨av', cv', rfl, _, _⟩ := own_slice hown'
     have hb1 : Below W2.heap.size W2 (w3.alloc (.cells #[.slice ac cN cc] 22)) := HB3.out.on (al0 w3 _ _)
     have hOn := HO2.out.below hb1
     have hlu := HU.out.lt
     have hO8 := hOn.grown hgrow (fun b e => (hlu b e).1)
     have HO8 := Lib.hid hO8
     have cq := hO8.b2.cell 0
     have fq := hO8.b2.frozen 0
     have lq := hO8.b2.lt
     simp only [List.getElem?_toArray, List.getElem?_cons_zero] at cq
     clear hOn hO8
     refine hK.out _ _ (fun h => absurd ((show _ = true from by kernel_rfl).symm.trans h) (by simp)) ?_
     clear hK K
     (try simp only [Act.put, l_t, l_s, l_z, s_t, s_z, s_s])
     refine AnyQ.one (i := 7) (by kernel_rfl) rfl (fun K hK => ?_)
     go_simp
     refine hK.out _ _ (fun h => absurd ((show _ = true from by kernel_rfl).symm.trans h) (by simp)) ?_
     clear hK K
     (try simp only [Act.put, l_t, l_s, l_z, s_t, s_z, s_s])
     refine AnyQ.done (by kernel_rfl) ⟨rfl, ?_⟩ _
     have hal := al0 w3 #[.slice ac cN cc] 22
     have hR8 : RowsB w1 (W.heap.size + 3) 22 (.slice av' (N + 1) cv') ((pre ++ [(⟨x, hx⟩ : TT)]).map fun (y : TT) => y.val.take cN) := by
      rw [List.map_append]
      refine RowsB.push (HE2.out.mono fun _ _ hu => hu.below hb1) (by rw [HN.out]; exact hown') hgrow hfr (HIC.out.below hal) (fun hn => ⟨fun e => ?_, fun b e => by have := (HLC.out b e).1; omega⟩)
      obtain ⟨b2, o2, e3, _⟩ := HIC.out.at' hn
      have e4 : (Value.slice ac cN cc).ownBlock = some b2 := by rw [e3]; rfl
      have h5 := (HLC.out b2 e4).1
      have h6 := (hlu b2 (by rw [← e, e4])).2
      omega
     have hk1 : KeepsOthers W2 (w1.setCell ⟨W.heap.size + 1, 0, none⟩ (.slice av' (N + 1) cv')) := ((keepsO (grown_of_below hb1 none) (fun r e => by cases e)).trans (keepsO hgrow (fun r e => own_cells ((HU3.out.alloc _)) r e))).trans (keepsO (grownBy_setCell w1 ⟨W.heap.size + 1, 0, none⟩ _) (fun r e => by injection e with e; subst e; exact ⟨_, HO8.out.b2, rfl⟩))
     exact ⟨rfl, hk1.from _, keepsW hk1, _, HO8.out.put _, hR8.set (by simp) _⟩
    case hdone =>
     intro D xs W2 hD hnd hmem ⟨v, hO, hR⟩ hKD
     simp only [Exit.inBlock, Exit.then]
     have htb := take_back (xs := xs.map TT.val) HALL.out HAL.out (fun k => by rw [hmem k]; exact HKS.out k) hnd
     rw [List.map_map] at htb
     obtain ⟨hln, hlm⟩ := htb
     have hlen : xs.length ≤ 4096 := by
      have := len_le_of_sub (xs.map TT.val) ks hnd (fun x hx => (hmem x).1 hx)
      rw [List.length_map] at this; omega
     obtain ⟨LL, hLL⟩ : ∃ LL, (xs.map fun (x : TT) => x.val.take cN) = LL := ⟨_, rfl⟩
     have hLL2 : (xs.map ((fun x : List Int => x.take cN) ∘ TT.val)) = LL := hLL
     rw [hLL] at hR
     rw [hLL2] at hln hlm
     have hLl : LL.length ≤ 4096 := by rw [← hLL, List.length_map]; exact hlen
     have hSP : Hid (sortP LL = sortP al00) := Lib.hid (sortP_uniq HALN.out (sortP_inc hln) (fun x => by rw [mem_sortP]; exact hlm x))
     obtain ⟨av, cv, rfl, _⟩ := hR.rows.rows
     obtain ⟨N, hN⟩ : ∃ N, LL.length = N := ⟨_, rfl⟩
     have hl3 := hO.b3.lt
     have HSRT := Lib.hid (sortF_any hR hln (by omega) (by omega))
     have hoc : ∀ r, (Value.slice av LL.length cv).ownBlock = some r → ∃ o : Obj, W2.heap[r]? = some o ∧ o.isCells = true := by
      obtain ⟨us, h1, _⟩ := hR
      exact own_cells h1
     have hRlt := hR.lt
     rw [hN] at hO HSRT hoc hRlt
     have c2 := hO.b2.cell 0
     simp only [List.getElem?_toArray, List.getElem?_cons_zero] at c2
     have HO2 := Lib.hid hO
     have HOC := Lib.hid hoc
     have HRL := Lib.hid hRlt
     clear hln hlm hLL hLL2 hR hN hnd hmem hO hoc hRlt hbk hlen
     go_wp2_with fail
     refine HSRT.out.mono ?_
     rintro e w3 ⟨rfl, ⟨a', c', e', hRw⟩, hb3, hg3⟩
     injection e' with e1 e2 e3
     clear e2
     subst e1 e3
     rw [hSP.out] at hRw
     have HRW := Lib.hid hRw
     have hO3 := HO2.out.grown hg3 (fun b e => (HRL.out b e).1)
     have hKD3 : w3.heap[D]? = some (.deferred (some [])) := (hg3.block D (Array.getElem?_eq_some_iff.1 hKD).1 (fun e => by
      obtain ⟨o, ho, hc⟩ := HOC.out D e.symm
      rw [hKD] at ho; injection ho with ho; subst ho; cases hc)).trans hKD
     have c3 := hO3.b2.cell 0
     have f3 := hO3.b2.frozen 0
     have l3 := hO3.b2.lt
     have q3 := hO3.b3.cell 0
     have fq3 := hO3.b3.frozen 0
     have lq3 := hO3.b3.lt
     simp only [List.getElem?_toArray, List.getElem?_cons_zero] at c3 q3
     have HO3 := Lib.hid hO3
     clear hRw hO3 hb3 hg3 c2 hKD
     go_wp2_with fail
     rw [setCell_self HO3.out.b2, setCell_self HO3.out.b3]
     obtain ⟨w9, hw9⟩ : ∃ w9, w3.putObj D (.deferred none) = w9 := ⟨_, rfl⟩
     have htd := run_takeDeferred (P := Tryz.prog) hKD3
     have hgp := grownBy_putObj' w3 D (.deferred none)
     rw [hw9] at hgp htd
     have hrp : ∀ r, some D = some r → ∃ o : Obj, w3.heap[r]? = some o ∧ o.isCells = false := fun r e => by injection e with e; subst e; exact ⟨_, hKD3, rfl⟩
     have hO9 := HO3.out.grown hgp (fun j e => by injection e with e; omega)
     have hR9 := HRW.out.nonCell hgp hrp
     have hy2 := hO9.b2.cell 0
     have hy3 := hO9.b3.cell 0
     simp only [List.getElem?_toArray, List.getElem?_cons_zero] at hy2 hy3
     refine ⟨by simp, .inl ⟨_, _, rfl, htd, ⟨by simp, .inr ⟨(fun h => by cases h), _, _, 76, #[.pointer (some ⟨W.heap.size + 1, 0, none⟩), .pointer (some ⟨W.heap.size + 1 + 1, 0, none⟩)], rfl, by simp [go_sem], fun _ _ => trivial, (catch_idle _ _ _ w9).mono ?_⟩⟩⟩⟩
     rintro e u' w11 ⟨rfl, rfl, rfl⟩
     refine ⟨.tuple #[.slice av N cv, .int .i64 0], by simp [results, Tryz.results52, go_sem, hy2, hy3], av, N, cv, by rw [HRES.out.1], by rw [HRES.out.2]; exact hR9.mono (by omega), hO9.bel⟩
  have h0w := h0.below hOW.bel
  have h32 : nl ≤ 32 := by rw [← h0.len]; exact HOK.out.len
  have HCNT := Lib.hid (counted_any al nl cl l p wr h0w (by omega) (fun x hx => by have := okRs_iv (List.all_eq_true.1 HOK.out.rs x hx); omega))
  have hc4 := cnt_len HOK.out.rs (C := 4) h4 (p : Int)
  have hiv := iv_ok HOK.out.rs (p : Int)
  have HIV := Lib.hid hiv
  have hown : ∀ i ∈ cntL l p, 0 ≤ i ∧ i < l.length := fun i hi => ⟨(cntL_mem hi).1, (cntL_mem hi).2.1⟩
  have HOWN := Lib.hid hown
  have hpl75 := posL_len (iv := ivOf l (cntL l p)) (by rw [ivOf_len]; exact hc4)
  have HPL75 := Lib.hid hpl75
  clear hOW hM h0w hiv hown hpl75
  go_wp2_with fail
  refine HCNT.out.mono ?_
  rintro e w3 ⟨vo, rfl, hO3, hB3⟩
  obtain ⟨oa, oc, rfl, hI3⟩ := hO3.ints
  obtain ⟨on, hon⟩ : ∃ on, (cntL l p).length = on := ⟨_, rfl⟩
  rw [hon] at hI3 hc4 ⊢
  have HON := Lib.hid hon
  clear HCNT hon
  go_wp2_with fail
  have hal3 : Below w3.heap.size w3 (w3.alloc (.map #[] 0)) := (Below.refl _ _).alloc (Nat.le_refl _) _
  have hmm := BMap.made tV okT w3
  refine (possible_any al nl cl l oa on oc (cntL l p) _ ((h0.below HOW.out.bel).below (hB3.on hal3)) (hI3.below hal3) HOWN.out HIV.out (by omega) (by have := HPL75.out; omega)).mono ?_
  rintro e w5 ⟨vp, rfl, hR5, hB5⟩
  have hlo := hO3.lt
  obtain ⟨pa, pc, rfl, _⟩ := hR5.rows.rows
  obtain ⟨PL, hPL⟩ : ∃ PL, posL (ivOf l (cntL l p)) = PL := ⟨_, rfl⟩
  obtain ⟨np, hnp⟩ : ∃ np, PL.length = np := ⟨_, rfl⟩
  have hB35 : Below w3.heap.size w3 w5 := hal3.on hB5
  have hOW5 := HOW.out.below (hB3.on hB35)
  have hM5 := HM.out.below (hB3.on hB35)
  have hM25 := hmm.below hB5
  have hI5 := hI3.below hB35
  have hs3 := hB3.size
  rw [World.size_alloc] at hR5
  have HPLOK : Hid (∀ q ∈ PL, q.length = on ∧ ∀ x ∈ q, 0 ≤ x ∧ x ≤ 1048576) := Lib.hid fun q hq => by
   rw [← hPL] at hq
   obtain ⟨h1, h2⟩ := places_ok HIV.out hq
   rw [ivOf_len, HON.out] at h1 h2
   exact ⟨h1, fun x hx => by have := h2 x hx; omega⟩
  rw [hPL, hnp] at hR5 ⊢
  have HPLE := Lib.hid hPL
  have HNP := Lib.hid hnp
  have HR5 := Lib.hid hR5
  have HOW5 := Lib.hid hOW5
  have HM5 := Lib.hid hM5
  have HM25 := Lib.hid hM25
  have HI5 := Lib.hid hI5
  have hlo' : ∀ b o, oa = some ⟨b, o, none⟩ → b < w3.heap.size := fun b o e => (hlo b (by rw [e]; rfl)).2
  have HLO := Lib.hid hlo'
  have hMM : M < w3.heap.size := by omega
  have hW3 : W.heap.size + 3 ≤ w3.heap.size := by omega
  have hnp75 : np ≤ 75 := by have := HPL75.out; rw [HPLE.out, HNP.out] at this; exact this
  have h53 : w3.heap.size < w5.heap.size := hM25.lt
  clear hPL hnp hR5 hOW5 hM5 hM25 hI5 hB35 hlo hlo' hO3 hal3 hmm hB5 hI3 hB3 HM HOW
  go_wp2_with fail
  go_loopw [38] (fun i w6 => ∃ (j : Nat) (ks2 : List (List Int)), i = .int .i64 j ∧ j ≤ np ∧ w5.grownBy w6 (some w3.heap.size) ∧ TMap w6 w3.heap.size ks2 ∧ Hid (More S.sh l p al8 (PL.take j) [] [] ks2) ∧ ks2.length ≤ 4096) (fun i _ => np - (intOf i).toNat)
  case atStart => exact ⟨0, [], rfl, by omega, ⟨rfl, rfl, rfl, Nat.le_refl _, fun _ _ _ => rfl⟩, HM25.out, Lib.hid (by rw [List.take_zero]; exact more_start []), by simp⟩
  case round =>
   clear HM25
   obtain ⟨j, ks2, rfl, hj, hg6, hM6, HMO, hkl2⟩ := hrel
   by_cases hjn : j < np
   rotate_left
   · obtain rfl : np = j := by omega
     have HM6 := Lib.hid hM6
     have HG6 := Lib.hid hg6
     have hALL : ∃ al', ordTo S.sh l 8 (p + 1) = some al' ∧ ∀ x, x ∈ ks2 ↔ x ∈ al' := by
      have h1 := HMO.out
      rw [List.take_of_length_le (by rw [HNP.out]; exact Nat.le_refl _), ← HPLE.out] at h1
      exact h1.all hM6.nodup HO.out hkl2
     obtain ⟨al', hal1, hal2⟩ := hALL
     have HA1 := Lib.hid hal1
     have HA2 := Lib.hid hal2
     clear hM6 hg6 hal1 hal2
     go_wp2_with fail
     go_roundw
     case rel => exact ⟨p + 1, _, ks2, al', by go_num, rfl, by omega, hW3, HOW5.out.grown HG6.out (fun b e => by injection e with e; omega), HM6.out, HA1, HA2, hkl2⟩
     case measure => simp [intOf]; omega
   obtain ⟨pl, hpl⟩ : ∃ pl, PL[j]? = some pl := ⟨_, List.getElem?_eq_getElem (by rw [HNP.out]; exact hjn)⟩
   obtain ⟨pb, po, ai, ni, ci, rfl, hpbb, hpbl, hcj5, hI5j, hnb⟩ := HR5.out.row hpl
   have hcj : wr.cell? ⟨pb, po + j, none⟩ = some (.slice ai ni ci) := (World.cell?_of_block (w := w5) (hg6.block pb hpbl (fun e => by injection e with e; omega))).trans hcj5
   have hplo := HPLOK.out pl (List.mem_of_getElem? hpl)
   have hni : ni = on := by rw [← hI5j.len]; exact hplo.1
   subst hni
   have HPLJ := Lib.hid hpl
   have HPLO := Lib.hid hplo
   have HIJ := Lib.hid hI5j
   have HNB := Lib.hid hnb
   have hMj := HM5.out.grown hg6 (fun e => by injection e with e; omega)
   obtain ⟨D, hown, hsz⟩ := hMj.owns tot_key (by unfold maxLen; omega)
   have HH0 : Hid (∀ k ∈ ks, Maps.has D (litT k) = true) := Lib.hid fun k hk => hMj.has0 tot_key hown hk
   have s0 : (0 : Int) ≤ (j : Int) := by omega
   have s1 : (j : Int) < (np : Int) := by omega
   have hs6 := hg6.size
   have HG6 := Lib.hid hg6
   have HM6 := Lib.hid hM6
   clear hpl hplo hI5j hnb hcj5 hMj hg6 hM6 hsz
   go_wp2_with (first | (at_range; refine wpList_range_own _ rfl _ 163 rfl 87 4 tk_law Tryz.underlying163 _ M ks.length _ rfl hown ?_; intro w7 hrg0 hg0 hs0))
   go_frame
   have hg07 := HG6.out.andThen hg0 (fun j e => by cases e)
   have hM27 := HM6.out.grown hg0 (by simp)
   have HG7 := Lib.hid hg07
   have HM27 := Lib.hid hM27
   have hC0 := Lib.hid (Come.start (lit := litT) (left := Maps.has D) HH0.out)
   clear hg07 hM27 hg0 hs0
   go_loopw [44] (fun _ w8 => ∃ (left : Lit → Bool) (cnt : Nat) (ss ks3 : List (List Int)), w8.ranges Tryz.prog 87 anyR M wr.heap.size ks.length D left cnt ∧ Hid (Come litT ks left ss) ∧ w5.grownBy w8 (some w3.heap.size) ∧ TMap w8 w3.heap.size ks3 ∧ Hid (More S.sh l p al8 (PL.take j) pl ss ks3) ∧ ks3.length ≤ 4096)
    (fun _ w8 => w8.rangeLeft M wr.heap.size)
   case atStart => exact ⟨_, _, [], ks2, hrg0, hC0, HG7.out, HM27.out, Lib.hid (HMO.out.other pl), hkl2⟩
   case round =>
    clear hC0 hrg0 hown HM27 HG7 HH0
    obtain ⟨left, cnt, ss, ks3, hrg, hC, hg8, hM8, HMO3, hkl3⟩ := hrel
    have hMr := HM5.out.grown hg8 (fun e => by injection e with e; omega)
    have HMR := Lib.hid hMr
    go_wp2_with (first | (at_next; refine wpList_next_b tot_key rfl _ rfl M _ _ _ _ _ ks rfl hrg HMR.out ?_ ?_))
    · intro hl0
      have hdn := hC.out.done hl0
      have HNX : Hid (More S.sh l p al8 (PL.take (j + 1)) [] [] ks3) := Lib.hid (by
       rw [takeF HPLJ.out]
       exact (HMO3.out.next (fun t => by rw [hdn t]; exact HKS.out t)).other [])
      clear hdn hMr HMR
      go_wp2_with fail
      go_roundw
      case rel => exact ⟨j + 1, ks3, by go_num, by omega, hg8, hM8, HNX, hkl3⟩
      case measure => simp [intOf]; omega
    · intro x v w7 cnt2 hx hlk hrg2 hlt hg7 hs7 hen
      have hxa : x ∈ al8 := (HKS.out x).1 hx
      obtain ⟨hA, _⟩ := ordTo_all HOK.out.rs (C := 4) h4 HO.out
      have hxl := hA.len x hxa
      have hxb : BdT 1000000000000 x := fun y hy => by have := hA.bd x hxa y hy; omega
      have hB58 : Below W.heap.size W w7 := (HOW5.out.bel.grown hg8 HOW5.out.bel.size (fun b e => by injection e with e; omega)).grown hg7 (by have := (HOW5.out.bel.grown hg8 HOW5.out.bel.size (fun b e => by injection e with e; omega)).size; omega) (fun b e => by injection e with e; omega)
      have hg58 : w5.grownBy w7 (some w3.heap.size) := hg8.andThen hg7 (fun b e => by injection e with e; exact .inl (by omega))
      have hM7 := hM8.grown hg7 (fun e => by injection e with e; omega)
      have hb8 := al0 w7 (tA x) 87
      have hOW7 := HOW5.out.grown hg58 (fun b e => by injection e with e; omega)
      have hI7 := HI5.out.grown hg58 (fun hn e => by
       obtain ⟨b, o, e1, _⟩ := HI5.out.at' hn
       have h1 := HLO.out b o e1
       rw [e1] at e
       simp [Value.ownBlock] at e; omega)
      have hIJ7 := HIJ.out.grown hg58 (fun hn e => by have := HNB.out _ hn e; omega)
      obtain ⟨a0, a1, a2, a3, a4, a5, a6, a7, rfl⟩ := len8 hxl
      have h0w7 := h0.below hOW7.bel
      have hadd := add_any S al nl cl l p oa ni oc (cntL l p) ai ci pl [a0, a1, a2, a3, a4, a5, a6, a7] _ (((hS.below hOW7.bel)).below hb8) (h0w7.below hb8) (hI7.below hb8) (hIJ7.below hb8) HOK.out (by rw [HPS.out]; omega) HOWN.out HPLO.out.2 (by omega) rfl hxb ((ht.below hOW7.bel).below hb8)
      have hT : addTo S.sh l p (cntL l p) pl ni [a0, a1, a2, a3, a4, a5, a6, a7] = addT S.sh l p pl [a0, a1, a2, a3, a4, a5, a6, a7] := by unfold addT; rw [HON.out]
      rw [hT] at hadd
      obtain ⟨T, hTe⟩ : ∃ T, addT S.sh l p pl [a0, a1, a2, a3, a4, a5, a6, a7] = T := ⟨_, rfl⟩
      have hTok : okT T := by
       rw [← hTe]
       have h1 : (addT S.sh l p pl [a0, a1, a2, a3, a4, a5, a6, a7]).length = 8 := by unfold addT; rw [addTo_len]; rfl
       have h2 := addTo_bd S.sh l p (cntL l p) pl (B := (p : Int) * (((4 : Nat) : Int) * 1048576)) (by omega) (hA.bd _ hxa) ni
       rw [hT] at h2
       exact okT_of h1 (fun y hy => by have := h2 y hy; omega)
      rw [hTe] at hadd
      have HADD := Lib.hid hadd
      have HTE := Lib.hid hTe
      have HTOK := Lib.hid hTok
      have hx7 := hOW7.b1
      obtain ⟨d0, d1, d2, d3, d4, d5⟩ := hx7.g6
      have hwb := hx7.lt
      have HM7 := Lib.hid hM7
      have HG58 := Lib.hid hg58
      have HOW7 := Lib.hid hOW7
      have HX := Lib.hid hx
      have HLK := Lib.hid hlk
      have HRG := Lib.hid hrg
      have HRG2 := Lib.hid hrg2
      have hs57 := hg58.size
      clear hA hB58 hxl hxb hxa hI7 hIJ7 h0w7 hadd hT hTok hTe hM7 hg58 hOW7 hx7 hx hlk hrg hMr HMR hrg2 hM8 hg8 hg7 hs7
      simp only [tV, tA, List.map_cons, List.map_nil] at hen HADD hb8
      go_wp2_with fail
      refine HADD.out.mono ?_
      rintro e w9 ⟨rfl, hB9⟩
      obtain ⟨w10, hput, hM10, hg10, -⟩ := ((HM7.out.below hb8).below hB9).put tot_key T HTOK.out
      have hM10' : TMap w10 w3.heap.size (if T ∈ ks3 then ks3 else ks3 ++ [T]) := by
       by_cases h : T ∈ ks3
       · rw [if_pos h] at hM10 ⊢; exact hM10
       · rw [if_neg h] at hM10 ⊢; exact hM10
      obtain ⟨K, hK⟩ : ∃ K, (if T ∈ ks3 then ks3 else ks3 ++ [T]) = K := ⟨_, rfl⟩
      rw [hK] at hM10'
      have hb79 := hb8.on hB9
      have HMK : Hid (More S.sh l p al8 (PL.take j) pl (ss ++ [[a0, a1, a2, a3, a4, a5, a6, a7]]) K) := Lib.hid (by
       have := HMO3.out.put [a0, a1, a2, a3, a4, a5, a6, a7]
       rw [HTE.out, hK] at this
       exact this)
      have HM10 := Lib.hid hM10'
      have HG510 : Hid (w5.grownBy w10 (some w3.heap.size)) := Lib.hid ((HG58.out.andThen (grown_of_below hb79 none) (fun b e => by cases e)).andThen hg10 (fun b e => .inr e))
      have HG710 := Lib.hid hg10
      have HB79 := Lib.hid hb79
      have hKl : K.length ≤ 4097 := by
       rw [← hK]
       split
       · omega
       · rw [List.length_append]; simp; omega
      have HND := Lib.hid hM10'.nodup
      obtain ⟨D2, hown2, hsz2⟩ := hM10'.owns tot_key (by unfold maxLen; omega)
      have hlen := hown2.len Tryz.underlying163 3
      rw [hsz2] at hlen
      have HOW10 : Hid (OrW S W w10 (.slice none 0 0)) := Lib.hid (HOW5.out.grown HG510.out (fun b e => by injection e with e; omega))
      have hs10 := HG510.out.size
      unfold tV tA at hput
      clear d0 d1 d2 d3 d4 d5 hen hM10 hM10' hg10 hb79 hB9 hK hown2 hsz2
      by_cases hov : 4096 < K.length
      · have g1 : decide ((4096 : Int) < (K.length : Int)) = true := by simp; omega
        have HMANY : Hid (ordO S.sh l = none) := Lib.hid (by
         have h1 := HMK.out.many (n := 8) (fun q hq => by rw [HPLE.out]; exact List.mem_of_mem_take hq) (by rw [HPLE.out]; exact List.mem_of_getElem? HPLJ.out) (fun t ht => by
          rcases List.mem_append.1 ht with ht | ht
          · exact (HKS.out t).1 ((hC.out.mem t).1 ht).1
          · rw [List.mem_singleton.1 ht]; exact (HKS.out _).1 HX.out) HND.out HO.out hov
         exact ord8_none HOK.out.rs k1 k2 (ordTo_none h1 (by rw [HPS.out, Int.toNat_natCast]; omega)))
        clear hov
        go_wp2_with fail
        have q2 := HOW10.out.b2.cell 0
        have q3 := HOW10.out.b3.cell 0
        simp only [List.getElem?_toArray, List.getElem?_cons_zero] at q2 q3
        refine ⟨by simp, .inr ⟨(fun h => by cases h), _, _, 76, #[.pointer (some ⟨W.heap.size + 1, 0, none⟩), .pointer (some ⟨W.heap.size + 1 + 1, 0, none⟩)], rfl, by simp [go_sem], fun _ _ => trivial, (catch_two _ W.heap.size _ _ w10 q2 (HOW10.out.b2.frozen 0) HOW10.out.b3.lt q3 (HOW10.out.b3.frozen 0)).mono ?_⟩⟩
        rintro e u' w11 ⟨rfl, rfl, rfl⟩
        have hy2 := ((HOW10.out.b2.set 0 (.slice none 0 0)).setOther (a := ⟨W.heap.size + 1 + 1, 0, none⟩) (.int .i64 2) (by simp)).cell 0
        have hy3 := ((HOW10.out.b3.setOther (a := ⟨W.heap.size + 1, 0, none⟩) (.slice none 0 0) (by simp)).set 0 (.int .i64 2)).cell 0
        simp at hy2 hy3
        have hno := ordE_none HE.out HMANY.out
        refine ⟨.tuple #[.slice none 0 0, .int .i64 2], by simp [results, Tryz.results52, go_sem, hy2, hy3], none, 0, 0, by rw [hno.1], by rw [hno.2]; exact RowsN.nil _ _, below_set (below_set HOW10.out.bel (by omega) _) (by omega) _⟩
      · have g1 : decide ((4096 : Int) < (K.length : Int)) = false := by simp; omega
        have hK4 : K.length ≤ 4096 := by omega
        clear hov
        go_wp2_with fail
        have hrg3 := (HRG2.out.kept (grown_of_below HB79.out none) (by simp) (by simp)).kept HG710.out (by intro e; injection e with e; omega) (by intro e; injection e with e; omega)
        go_roundw
        case rel => exact ⟨_, cnt2, ss ++ [[a0, a1, a2, a3, a4, a5, a6, a7]], K, hrg3, Lib.hid (hC.out.step tot_key HM5.out.keys HX.out HLK.out), HG510.out, HM10.out, HMK, hK4⟩
        case measure => rw [hrg3.left_eq, HRG.out.left_eq]; exact hlt
end Go.Proofs.YtehoidohallfcaaGreatDoor
