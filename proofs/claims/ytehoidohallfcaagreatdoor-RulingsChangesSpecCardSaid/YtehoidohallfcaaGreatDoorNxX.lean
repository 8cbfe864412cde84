/- The memory of the search for places. -/
import Derived.Test.YtehoidohallfcaaGreatDoorAdX
namespace Go.Proofs.YtehoidohallfcaaGreatDoor
open Go.RowKit
def ElemB (w : World) (base : Nat) (row : Option Nat) (u : Value) (l : List Int) : Prop := ∃ a n c, u = .slice a n c ∧ Ints w a n c l ∧ (0 < n → u.ownBlock ≠ row ∧ ∀ b, u.ownBlock = some b → base ≤ b)
inductive ElemsB (w : World) (base : Nat) (row : Option Nat) : List Value → List (List Int) → Prop
 | nil : ElemsB w base row [] []
 | cons {u l us ls} : ElemB w base row u l → ElemsB w base row us ls → ElemsB w base row (u :: us) (l :: ls)
theorem ElemsB.snoc {w : World} {base : Nat} {row : Option Nat} {us : List Value} {ls : List (List Int)} (h : ElemsB w base row us ls) {u : Value} {l : List Int} (hu : ElemB w base row u l) : ElemsB w base row (us ++ [u]) (ls ++ [l]) := by
 induction h with
 | nil => exact .cons hu .nil
 | cons h1 _ ih => exact .cons h1 ih
theorem ElemsB.mono {w w' : World} {base : Nat} {row row' : Option Nat} {us : List Value} {ls : List (List Int)} (h : ElemsB w base row us ls) (hf : ∀ u l, ElemB w base row u l → ElemB w' base row' u l) : ElemsB w' base row' us ls := by
 induction h with
 | nil => exact .nil
 | cons h1 _ ih => exact .cons (hf _ _ h1) ih
theorem ElemsB.elems {w : World} {base : Nat} {row : Option Nat} {us : List Value} {ls : List (List Int)} (h : ElemsB w base row us ls) : Elems w row us ls := by
 induction h with
 | nil => exact .nil
 | cons h1 _ ih =>
  obtain ⟨a, n, c, e, hI, ho⟩ := h1
  exact .cons ⟨a, n, c, e, hI, fun hn => (ho hn).1⟩ ih
def RowsB (w : World) (base : Nat) (e : TypeId) (v : Value) (ll : List (List Int)) : Prop := ∃ us, w.ownsRow base e 1 v ll.length us ∧ ElemsB w base v.ownBlock us ll
theorem RowsB.nil (w : World) (base : Nat) (e : TypeId) : RowsB w base e (.slice none 0 0) [] := ⟨[], World.ownsRow_nil w base e 1, .nil⟩
theorem RowsB.rows {w : World} {base : Nat} {e : TypeId} {v : Value} {ll : List (List Int)} (h : RowsB w base e v ll) : OwnRows w base e v ll := let ⟨us, h1, h2⟩ := h; ⟨us, h1, h2.elems⟩
theorem RowsB.lt {w : World} {base : Nat} {e : TypeId} {v : Value} {ll : List (List Int)} (h : RowsB w base e v ll) : ∀ k, v.ownBlock = some k → base ≤ k ∧ k < w.heap.size := let ⟨_, h1, _⟩ := h; h1.lt
theorem ElemB.below {w w' : World} {base : Nat} {row : Option Nat} {u : Value} {l : List Int} (h : ElemB w base row u l) (hb : Below w.heap.size w w') : ElemB w' base row u l :=
 let ⟨a, n, c, e, hI, ho⟩ := h; ⟨a, n, c, e, hI.below hb, ho⟩
theorem RowsB.below {w w' : World} {base : Nat} {e : TypeId} {v : Value} {ll : List (List Int)} (h : RowsB w base e v ll) (hb : Below w.heap.size w w') : RowsB w' base e v ll :=
 let ⟨us, h1, h2⟩ := h; ⟨us, ownsRow_below' h1 hb, h2.mono fun _ _ hu => hu.below hb⟩
theorem RowsB.set {w : World} {base : Nat} {e : TypeId} {v : Value} {ll : List (List Int)} (h : RowsB w base e v ll) {p : Addr} (hp : p.block < base) (u : Value) : RowsB (w.setCell p u) base e v ll := by
 have hlt := h.lt
 obtain ⟨us, h1, h2⟩ := h
 refine ⟨us, ownsRow_setCell_other h1 (fun e => by have := (hlt _ e).1; omega) u, h2.mono fun x l ⟨a, n, c, e, hI, ho⟩ => ⟨a, n, c, e, hI.setOther u (fun hn e2 => ?_), ho⟩⟩
 subst e
 have := (ho hn).2 _ e2
 omega
theorem RowsB.push {w w' : World} {base : Nat} {e : TypeId} {v v' : Value} {ll : List (List Int)} {us : List Value} {l : List Int} {a : Option Addr} {n c : Nat}
 (hE : ElemsB w base v.ownBlock us ll) (hown' : w'.ownsRow base e 1 v' (ll.length + 1) (us ++ [.slice a n c])) (hg : w.grownBy w' v.ownBlock)
 (hfresh : v'.ownBlock = v.ownBlock ∨ v'.ownBlock = some w.heap.size)
 (hI : Ints w a n c l) (hne : 0 < n → (Value.slice a n c).ownBlock ≠ v.ownBlock ∧ ∀ b, (Value.slice a n c).ownBlock = some b → base ≤ b) :
 RowsB w' base e v' (ll ++ [l]) := by
 have key : ∀ a n c l, Ints w a n c l → (0 < n → (Value.slice a n c).ownBlock ≠ v.ownBlock ∧ ∀ b, (Value.slice a n c).ownBlock = some b → base ≤ b) → ElemB w' base v'.ownBlock (.slice a n c) l := by
  intro a n c l hI hne
  refine ⟨a, n, c, rfl, hI.grown hg (fun h => (hne h).1), fun hn => ⟨?_, (hne hn).2⟩⟩
  obtain ⟨b, o, rfl, hl⟩ := hI.at' hn
  rcases hfresh with h | h
  · rw [h]; exact (hne hn).1
  · intro hh
    rw [h] at hh
    simp [Value.ownBlock] at hh
    omega
 exact ⟨us ++ [.slice a n c], by simpa using hown', ElemsB.snoc (hE.mono fun u l' ⟨a', n', c', e1, h1, h2⟩ => by subst e1; exact key _ _ _ _ h1 h2) (key _ _ _ _ hI hne)⟩
theorem clone_any (b o n c : Nat) (l : List Int) (w : World) (h : Ints w (some ⟨b, o, none⟩) n c l) (hn : n ≤ 1000000) : Calls Tryz.prog 41 #[.slice (some ⟨b, o, none⟩) n c] w fun e w' => ∃ v', e = .returned v' ∧ OwnInts w' w.heap.size 3 v' l ∧ Below w.heap.size w w' := by
 refine (Tryz.slices_Clone_int b o n c l w (by rw [h.len]; exact Nat.le_refl _) (by omega) (fun j hj => by rw [h.len] at hj; rw [h.cell b o rfl j hj, List.getD_eq_getElem?_getD])).mono ?_
 rintro e w' ⟨v', rfl, h1, _, h2⟩
 refine ⟨v', rfl, ?_, h2⟩
 unfold OwnInts
 rw [h.len]
 rw [List.take_of_length_le (by rw [h.len]; exact Nat.le_refl _)] at h1
 exact h1
def capN (B : Nat) : Array Value := #[.pointer (some ⟨B + 1, 0, none⟩), .pointer (some ⟨B + 2, 0, none⟩), .pointer (some ⟨B + 4, 0, none⟩), .pointer (some ⟨B, 0, none⟩), .pointer (some ⟨B + 5, 0, none⟩)]
structure NxW (w W0 : World) (B : Nat) (sl so : Value) (m : Nat) (v : Value) (ll : List (List Int)) (pl : List Int) : Prop where
 b0 : Box w B #[sl] 26
 b1 : Box w (B + 1) #[so] 22
 b2 : Box w (B + 2) #[v] 106
 b3 : Box w (B + 3) (tA pl) 3
 b4 : Box w (B + 4) #[.slice (some ⟨B + 3, 0, none⟩) m m] 22
 b5 : Box w (B + 5) #[.func (.func 117) #[] (capN B)] 203
 rows : RowsB w (B + 6) 22 v ll
 len : pl.length = m
 bel : Below B W0 w
section
variable {w w' W0 : World} {B m : Nat} {sl so v : Value} {ll : List (List Int)} {pl : List Int}
theorem NxW.below (h : NxW w W0 B sl so m v ll pl) (hb : Below w.heap.size w w') : NxW w' W0 B sl so m v ll pl where
 b0 := h.b0.below hb
 b1 := h.b1.below hb
 b2 := h.b2.below hb
 b3 := h.b3.below hb
 b4 := h.b4.below hb
 b5 := h.b5.below hb
 rows := h.rows.below hb
 len := h.len
 bel := h.bel.trans (hb.mono (by have := h.b0.lt; omega))
theorem NxW.set (h : NxW w W0 B sl so m v ll pl) (i : Nat) (x : Int) : NxW (w.setCell ⟨B + 3, i, none⟩ (.int .i64 x)) W0 B sl so m v ll (pl.set i x) where
 b0 := h.b0.setOther _ (by simp)
 b1 := h.b1.setOther _ (by simp)
 b2 := h.b2.setOther _ (by simp)
 b3 := by have := h.b3.set i (.int .i64 x); rw [tA_set] at this; exact this
 b4 := h.b4.setOther _ (by simp)
 b5 := h.b5.setOther _ (by simp)
 rows := h.rows.set (by simp) _
 len := by rw [List.length_set]; exact h.len
 bel := h.bel.setCell (by simp) _
theorem NxW.ints (h : NxW w W0 B sl so m v ll pl) (hm : m ≤ 1000000) : Ints w (some ⟨B + 3, 0, none⟩) m m pl where
 len := h.len
 cap := Nat.le_refl _
 mx := by unfold maxLen; omega
 at' := fun _ => ⟨_, _, rfl, h.b3.lt⟩
 cell := fun b o e i hi => by
  injection e with e
  injection e with e1 e2
  subst e1 e2
  rw [Nat.zero_add, h.b3.cell i, tA_get (by rw [h.len]; exact hi), List.getD_eq_getElem?_getD]
theorem NxW.push (h : NxW w W0 B sl so m v ll pl) {w1 w2 : World} {v' : Value} {us : List Value} {a : Option Addr} {n c : Nat} (hb : Below w.heap.size w w1) (hE : ElemsB w1 (B + 6) v.ownBlock us ll)
 (hown' : w2.ownsRow (B + 6) 22 1 v' (ll.length + 1) (us ++ [.slice a n c])) (hg : w1.grownBy w2 v.ownBlock) (hfresh : v'.ownBlock = v.ownBlock ∨ v'.ownBlock = some w1.heap.size)
 (hI : Ints w1 a n c pl) (hne : 0 < n → ∀ b, (Value.slice a n c).ownBlock = some b → w.heap.size ≤ b) :
 NxW (w2.setCell ⟨B + 2, 0, none⟩ v') W0 B sl so m v' (ll ++ [pl]) pl := by
 have hlt := h.rows.lt
 have hB : B + 5 < w.heap.size := h.b5.lt
 have hs := hb.size
 have hv : ∀ j, j ≤ 5 → v.ownBlock ≠ some (B + j) := fun j hj e => by have := (hlt _ e).1; omega
 have h1 := h.below hb
 have hR : RowsB w2 (B + 6) 22 v' (ll ++ [pl]) := RowsB.push hE hown' hg hfresh hI (fun hn => ⟨fun e => by
  obtain ⟨b, o, rfl, _⟩ := hI.at' hn
  have h2 := hne hn b rfl
  have h3 := (hlt b (by rw [← e]; rfl)).2
  omega, fun b e => by have := hne hn b e; omega⟩)
 exact {
  b0 := (h1.b0.grown hg (hv 0 (by omega))).setOther _ (by simp)
  b1 := (h1.b1.grown hg (hv 1 (by omega))).setOther _ (by simp)
  b2 := by have := (h1.b2.grown hg (hv 2 (by omega))).set 0 v'; simpa using this
  b3 := (h1.b3.grown hg (hv 3 (by omega))).setOther _ (by simp)
  b4 := (h1.b4.grown hg (hv 4 (by omega))).setOther _ (by simp)
  b5 := (h1.b5.grown hg (hv 5 (by omega))).setOther _ (by simp)
  rows := hR.set (by simp) _
  len := h.len
  bel := (h1.bel.grown hg (by omega) (fun b e => by have := (hlt b e).1; omega)).setCell (by simp) _ }
theorem NxW.far (h : NxW w W0 B sl so m v ll pl) (hg : w.grownBy w' v.ownBlock) : w'.cell? ⟨B + 2, 0, none⟩ = some v ∧ w'.frozen? ⟨B + 2, 0, none⟩ = false ∧ B + 2 < w'.heap.size := by
 have hb := h.b2.grown hg fun e => by have := (h.rows.lt _ e).1; omega
 exact ⟨hb.cell 0, hb.frozen 0, hb.lt⟩
end
open Go.RowKit
def NextC (W0 : World) (B : Nat) (sl so : Value) (m : Nat) (iv : Iv) (f : Nat) : Prop := ∀ (pl : List Int) (done : Nat) (fr : Int) (w : World) (v : Value) (ll : List (List Int)), NxW w W0 B sl so m v ll pl →
 done = ((List.range m).filter (isP pl)).length → m < f + done → 0 ≤ fr → fr ≤ 1048577 → ll.length + (nextP iv f pl done fr).length ≤ 4000 →
 Calls Tryz.prog 117 #[.int .i64 done, .int .i64 fr, .pointer (some ⟨B + 1, 0, none⟩), .pointer (some ⟨B + 2, 0, none⟩), .pointer (some ⟨B + 4, 0, none⟩), .pointer (some ⟨B, 0, none⟩), .pointer (some ⟨B + 5, 0, none⟩)] w
  fun e w' => ∃ v' u, e = .returned u ∧ NxW w' W0 B sl so m v' (ll ++ nextP iv f pl done fr) pl
theorem info_ints : (Tryz.prog.info? 22).map (fun i => (i.zero, i.size, i.bytes)) = some (some (.slice none 0 0), 1, 24) := by kernel_rfl
theorem bit_is (g k : Nat) (hg : g ≤ 256) : bits BinOp.and IntKind.i64 ((g : Int) / 2 ^ k) 1 = if g.testBit k then 1 else 0 := by
 have e : ((g : Int) / 2 ^ k) = ((g / 2 ^ k : Nat) : Int) := by rw [Int.natCast_ediv]; simp
 have hle : g / 2 ^ k ≤ g := Nat.div_le_self _ _
 rw [e, Go.Proofs.and_one _ (by omega), Nat.testBit_eq_decide_div_mod_eq]
 have : g / 2 ^ k % 2 = 0 ∨ g / 2 ^ k % 2 = 1 := by omega
 rcases this with h | h <;> rw [h] <;> simp
theorem NxW.drewN {w W0 : World} {B m : Nat} {sl so v : Value} {ll : List (List Int)} {pl : List Int} (h : NxW w W0 B sl so m v ll pl) (q : Nat) : NxW (w.drewN q) W0 B sl so m v ll pl := h.below (Below.drewN0 w q)
theorem NxW.at' {w W0 : World} {B m : Nat} {sl so v : Value} {ll : List (List Int)} {pl : List Int} (h : NxW w W0 B sl so m v ll pl) {k : Nat} (hk : k < m) : w.cell? ⟨B + 3, k, none⟩ = some (.int .i64 (pl.getD k 0)) := by
 rw [h.b3.cell k, tA_get (by rw [h.len]; exact hk)]
set_option maxHeartbeats 8000000 in
set_option maxRecDepth 100000 in
theorem next_step (W0 : World) (al : Option Addr) (nl cl : Nat) (l : List Rs) (oa : Option Addr) (m oc : Nat) (own : List Int) (f : Nat)
 (h0 : SL encRs 6 W0 al nl cl l) (ho : Ints W0 oa m oc own) (hown : ∀ i ∈ own, 0 ≤ i ∧ i < l.length) (hiv : OkIv (ivOf l own)) (hm : m ≤ 8)
 (IH : NextC W0 W0.heap.size (.slice al nl cl) (.slice oa m oc) m (ivOf l own) f) : NextC W0 W0.heap.size (.slice al nl cl) (.slice oa m oc) m (ivOf l own) (f + 1) := by
 intro pl done fr w v ll hW hdone hf hfr0 hfr1 hcnt
 have hivl : (ivOf l own).length = m := by rw [ivOf_len, ho.len]
 by_cases hd : done = m
 · obtain rfl : m = done := hd.symm
   obtain ⟨us, hus, hE⟩ := hW.rows
   obtain ⟨av, cv, rfl, hcap, hmx⟩ := own_slice hus
   have HNX : Hid (nextP (ivOf l own) (f + 1) pl m fr = [pl]) := Lib.hid (nextP_done hivl.symm)
   have c1 := hW.b1.cell 0
   have c2 := hW.b2.cell 0
   have c4 := hW.b4.cell 0
   simp only [List.getElem?_toArray, List.getElem?_cons_zero] at c1 c2 c4
   rw [HNX.out] at hcnt
   simp only [List.length_singleton] at hcnt
   have hI := hW.ints (by omega)
   obtain ⟨N, hN⟩ : ∃ N, ll.length = N := ⟨_, rfl⟩
   rw [hN] at hus c2 hcnt hW hE
   have HN := Lib.hid hN
   have g2 : ((N : Int) == 4096) = false := by simp; omega
   have HE := Lib.hid hE
   have HU := Lib.hid hus
   have HW := Lib.hid hW
   have HI := Lib.hid hI
   have HPL := Lib.hid hW.len
   have hB5 := hW.b5.lt
   obtain ⟨i22, hi22, hz220, hz221, hz222⟩ := info_parts info_ints
   clear hN hE hus hW hI hown hiv hdone IH h0 ho hd
   go_enter Tryz.func117, Tryz.ntmps117
   go_wp2_with fail
   refine region_anyQ (fun w' => w'.cell? ⟨W0.heap.size + 2, 0, none⟩ = some (.slice av N cv) ∧ w'.cell? ⟨W0.heap.size + 4, 0, none⟩ = some (.slice (some ⟨W0.heap.size + 3, 0, none⟩) m m)) 4 (by kernel_rfl) ⟨c2, c4⟩ (fun hS => ?_)
   refine AnyQ.take (i := 0) (v := ?_) rfl (by kernel_rfl) (by kernel_rfl) (by kernel_rfl) (by kernel_rfl) rfl (fun _ _ _ h => h) (Or.inl ⟨by rfl, ?_⟩) (by assumption) ?_
   rotate_left
   focus
    intro w hSw
    (try dsimp only at hSw)
    (try go_split_ands)
    go_simp
    try with_reducible rfl
   (try simp only [Act.put, l_t, l_z, s_t, s_z, s_s])
   refine AnyQ.take (i := 1) (v := ?_) rfl (by kernel_rfl) (by kernel_rfl) (by kernel_rfl) (by kernel_rfl) rfl (fun _ _ _ h => h) (Or.inl ⟨by rfl, ?_⟩) (by assumption) ?_
   rotate_left
   focus
    intro w hSw
    (try dsimp only at hSw)
    (try go_split_ands)
    go_simp
    try with_reducible rfl
   (try simp only [Act.put, l_t, l_s, l_z, s_t, s_z, s_s])
   refine AnyQ.one (i := 2) (by kernel_rfl) rfl (fun K hK => ?_)
   go_simp
   go_at_call 41
   refine (clone_any _ 0 m m pl _ (HI.out.drewN 1) (by omega)).mono ?_
   rintro e w3 ⟨vc, rfl, hcl, hb3⟩
   have hB3 : Below w.heap.size w w3 := (Below.drewN0 w 1).on hb3
   have hcl' : OwnInts w3 w.heap.size 3 vc pl := hcl
   obtain ⟨ac, cc, rfl, hIc⟩ := hcl'.ints
   have hlc := hcl'.lt
   rw [HPL.out] at hIc hlc hcl'
   have HIC := Lib.hid hIc
   have HLC := Lib.hid hlc
   have HB3 := Lib.hid hB3
   have hS3 : w3.cell? ⟨W0.heap.size + 2, 0, none⟩ = some (.slice av N cv) ∧ w3.cell? ⟨W0.heap.size + 4, 0, none⟩ = some (.slice (some ⟨W0.heap.size + 3, 0, none⟩) m m) := ⟨(hB3.cell (World.block_lt_of_cell? w _ c2)).trans c2, (hB3.cell (World.block_lt_of_cell? w _ c4)).trans c4⟩
   have HS4 : Hid ((w3.alloc (.cells #[.slice ac m cc] 22)).cell? ⟨W0.heap.size + 2, 0, none⟩ = some (.slice av N cv) ∧ (w3.alloc (.cells #[.slice ac m cc] 22)).cell? ⟨W0.heap.size + 4, 0, none⟩ = some (.slice (some ⟨W0.heap.size + 3, 0, none⟩) m m)) := Lib.hid ⟨(World.cell?_alloc_lt _ _ _ (World.block_lt_of_cell? w3 _ hS3.1)).trans hS3.1, (World.cell?_alloc_lt _ _ _ (World.block_lt_of_cell? w3 _ hS3.2)).trans hS3.2⟩
   have HU3 := Lib.hid (ownsRow_below' HU.out hB3)
   have hs3 := hB3.size
   clear hS c1 c2 c4 hcl hcl' hb3 hB3 hIc hlc
   refine hK.out _ _ (fun _ => hS3) ?_
   clear hK K
   (try simp only [Act.put, l_t, l_s, l_z, s_t, s_z, s_s])
   refine AnyQ.one (i := 3) (by kernel_rfl) rfl (fun K hK => ?_)
   go_simp
   rw [HPL.out]
   refine hK.out _ _ (fun _ => HS4.out) ?_
   clear hK K
   (try simp only [Act.put, l_t, l_s, l_z, s_t, s_z, s_s])
   refine AnyQ.one (i := 4) (by kernel_rfl) rfl (fun K hK => ?_)
   (refine step_append_own2 rfl _ _ 106 rfl (W0.heap.size + 6) 22 i22 (.slice none 0 0) 1 24 Tryz.underlying106 hi22 hz220 hz221 hz222 rfl (by decide) _ _ _ (HU3.out.alloc _) rfl ⟨_, 0, none⟩ 1 1 [(.slice ac m cc)] rfl rfl (cell_one_new _ _ _) (by simp [Value.oneCell']) (by unfold maxLen; omega) (by omega) (by first | omega | (simp; omega)) ?_; intro v' w1 hown' hgrow hfr)
   obtain ⟨av', cv', rfl, _, _⟩ := own_slice hown'
   have hb1 : Below w.heap.size w (w3.alloc (.cells #[.slice ac m cc] 22)) := HB3.out.on (al0 w3 _ _)
   obtain ⟨cq, fq, lq⟩ := NxW.far (HW.out.below hb1) hgrow
   refine hK.out _ _ (fun h => absurd ((show _ = true from by kernel_rfl).symm.trans h) (by simp)) ?_
   clear hK K
   (try simp only [Act.put, l_t, l_s, l_z, s_t, s_z, s_s])
   refine AnyQ.one (i := 5) (by kernel_rfl) rfl (fun K hK => ?_)
   go_simp
   refine hK.out _ _ (fun h => absurd ((show _ = true from by kernel_rfl).symm.trans h) (by simp)) ?_
   clear hK K
   (try simp only [Act.put, l_t, l_s, l_z, s_t, s_z, s_s])
   refine AnyQ.done (by kernel_rfl) ?_ _
   go_wp2_with fail
   refine bodyPost_ret (results_none Tryz.results117 _ _ _) rfl ?_
   refine ⟨.slice av' (N + 1) cv', _, rfl, ?_⟩
   rw [HNX.out]
   have hal := al0 w3 #[.slice ac m cc] 22
   refine HW.out.push hb1 (HE.out.mono fun _ _ hu => hu.below hb1) ?_ hgrow hfr (HIC.out.below hal) (fun hn b e => (HLC.out b e).1)
   rw [HN.out]
   exact hown'
 have c1 := hW.b1.cell 0
 have c4 := hW.b4.cell 0
 simp only [List.getElem?_toArray, List.getElem?_cons_zero] at c1 c4
 have hdm : done ≤ m := by rw [hdone]; exact placed_le _ _
 have g1 : ((done : Int) == (m : Int)) = false := by simp; omega
 obtain ⟨M, hM⟩ : ∃ M, 2 ^ m = M := ⟨_, rfl⟩
 have hM0 : 1 ≤ M := by rw [← hM]; exact Nat.one_le_two_pow
 have hM1 : M ≤ 256 := by rw [← hM]; exact Nat.pow_le_pow_right (by omega) hm
 have hw2 : IntKind.i64.wrap ((2 : Int) ^ m) = (M : Int) := by
  have e : ((2 : Int) ^ m) = (M : Int) := by rw [← hM]; simp
  rw [e, IntKind.wrap_i64]; omega
 have HTOT : Hid (∀ g, g ≤ M → (segTo (ivOf l own) f pl done fr g).length + ll.length ≤ 4000) := Lib.hid fun g hg => by
  rw [nextP_seg (by rw [hivl]; exact hd), hivl, hM] at hcnt
  have := segTo_le (iv := ivOf l own) (f := f) (done := done) (pl := pl) (fr := fr) hg
  omega
 have HNX : Hid (nextP (ivOf l own) (f + 1) pl done fr = segTo (ivOf l own) f pl done fr M) := Lib.hid (by rw [nextP_seg (by rw [hivl]; exact hd), hivl, hM])
 have HDN := Lib.hid hdone
 have HM := Lib.hid hM
 have HIVL := Lib.hid hivl
 have HLEN := Lib.hid h0.len
 have HOWN := Lib.hid hown
 have HIV := Lib.hid hiv
 clear hdone hcnt hM hivl hown hiv
 go_enter Tryz.func117, Tryz.ntmps117
 go_wp2_with fail
 go_loopw [9] (fun i wr => ∃ (g : Nat) (v : Value), i = .int .i64 g ∧ 1 ≤ g ∧ g ≤ M ∧ NxW wr W0 W0.heap.size (.slice al nl cl) (.slice oa m oc) m v (ll ++ segTo (ivOf l own) f pl done fr g) pl) (fun i _ => M - (intOf i).toNat)
 case atStart => exact ⟨1, v, rfl, Nat.le_refl _, hM0, by rw [segTo_one, List.append_nil]; exact hW⟩
 case round =>
  obtain ⟨g, v, rfl, hg1, hg2, hP⟩ := hrel
  have c1 := hP.b1.cell 0
  have c4 := hP.b4.cell 0
  have c0 := hP.b0.cell 0
  simp only [List.getElem?_toArray, List.getElem?_cons_zero] at c0 c1 c4
  by_cases hgM : g < M
  rotate_left
  · obtain rfl : g = M := by omega
    go_wp2_with fail
    refine bodyPost_end (results_none Tryz.results117 _ _ _) rfl ?_
    refine ⟨v, _, rfl, ?_⟩
    rw [HNX.out]; exact hP
  have HP := Lib.hid hP
  have HBIT : Hid (∀ k, bits BinOp.and IntKind.i64 ((g : Int) / 2 ^ k) 1 = if g.testBit k then 1 else 0) := Lib.hid fun k => bit_is g k (by omega)
  clear hP hW
  go_wp2_with fail
  go_loopw [10, 11, 12, 43] (fun x10 x11 x12 i w2 => ∃ (k : Nat) (lo hi : Int) (many : Nat) (q : Nat), i = .int .i64 k ∧ x10 = .int .i64 lo ∧ x11 = .int .i64 hi ∧ x12 = .int .i64 many ∧ k ≤ m ∧ w2 = wr.drewN q ∧ many ≤ k ∧ Hid (grpP (ivOf l own) pl g fr k = some (lo, hi, many))) (fun _ _ _ i _ => m - (intOf i).toNat)
  case atStart => exact ⟨0, fr, 1048576, 0, 0, rfl, rfl, rfl, rfl, by omega, rfl, Nat.le_refl _, Lib.hid rfl⟩
  case round =>
   obtain ⟨k, lo, hi, many, q, rfl, rfl, rfl, rfl, hk, rfl, hmk, HG⟩ := hrel
   by_cases hkm : k < m
   rotate_left
   · obtain rfl : m = k := by omega
     have hG := grpP_some HG.out
     have g2 : decide ((many : Int) < 0) = false := by simp
     by_cases hlh : hi < lo
     · have g3 : decide (hi < lo) = true := by simpa using hlh
       have HSEG : Hid (segP (ivOf l own) f pl done fr g = []) := Lib.hid (seg_empty (by rw [HIVL.out]; exact HG.out) hlh)
       clear hlh hG
       go_wp2_with fail
       go_roundw
       case rel => exact ⟨g + 1, _, by go_num, by omega, by omega, by rw [segTo_succ, HSEG.out, List.append_nil]; exact (HP.out.drewN q)⟩
       case measure => simp [intOf]; omega
     have g3 : decide (hi < lo) = false := by simpa using hlh
     have HLH := Lib.hid hlh
     have HGR := Lib.hid hG
     have hlo0 : 0 ≤ lo := by have := hG.frl; omega
     have hlo1 : lo ≤ 1048576 := by have := hG.top; omega
     have hwd : IntKind.i64.wrap ((done : Int) + 1) = (done : Int) + 1 := by rw [IntKind.wrap_i64]; omega
     clear hlh hG
     go_wp2_with fail
     go_loopw [15, 86] (fun x15 i w2 => ∃ (k : Nat), i = .int .i64 k ∧ x15 = .bool (lateP (ivOf l own) pl g lo k) ∧ k ≤ m ∧ NxW w2 W0 W0.heap.size (.slice al nl cl) (.slice oa m oc) m v (ll ++ segTo (ivOf l own) f pl done fr g) (setP pl g ((done : Int) + 1) k)) (fun _ i _ => m - (intOf i).toNat)
     case atStart => exact ⟨0, rfl, rfl, by omega, by rw [setP_zero]; exact HP.out.drewN q⟩
     case round =>
      obtain ⟨k, rfl, rfl, hk, hP2⟩ := hrel
      have HPQ := Lib.hid hP2
      by_cases hkm : k < m
      rotate_left
      · obtain rfl : m = k := by omega
        clear hP2
        have HUN : Hid (setP (setP pl g ((done : Int) + 1) m) g 0 m = pl) := Lib.hid (unset HP.out.len HGR.out.free)
        have c1' := HPQ.out.b1.cell 0
        have c4' := HPQ.out.b4.cell 0
        have c5' := HPQ.out.b5.cell 0
        simp only [List.getElem?_toArray, List.getElem?_cons_zero] at c1' c4' c5'
        cases hL : lateP (ivOf l own) pl g lo m
        rotate_left
        · have HSEG : Hid (segP (ivOf l own) f pl done fr g = []) := Lib.hid (seg_late (by rw [HIVL.out]; exact HG.out) (Int.not_lt.2 HLH.out) (by rw [HIVL.out]; exact hL))
          have HST := HPQ
          clear hL
          go_wp2_with fail
          go_loopw [136] (fun i w4 => ∃ (k : Nat), i = .int .i64 k ∧ k ≤ m ∧ NxW w4 W0 W0.heap.size (.slice al nl cl) (.slice oa m oc) m v (ll ++ segTo (ivOf l own) f pl done fr g) (setP (setP pl g ((done : Int) + 1) m) g 0 k)) (fun i _ => m - (intOf i).toNat)
          case atStart => exact ⟨0, rfl, by omega, by rw [setP_zero]; exact HST.out⟩
          case round =>
           obtain ⟨k, rfl, hk, hP4⟩ := hrel
           by_cases hkm : k < m
           rotate_left
           · obtain rfl : m = k := by omega
             rw [HUN.out] at hP4
             go_wp2_with fail
             go_roundw
             case rel => exact ⟨g + 1, _, by go_num, by omega, by omega, by rw [segTo_succ, ← List.append_assoc, HSEG.out, List.append_nil]; exact hP4⟩
             case measure => simp [intOf]; omega
           have HP4 := Lib.hid hP4
           have c4' := hP4.b4.cell 0
           simp only [List.getElem?_toArray, List.getElem?_cons_zero] at c4'
           have hkl : k < pl.length := by rw [HP.out.len]; exact hkm
           have cp := hP4.at' (k := k) hkm
           have fp := hP4.b3.frozen k
           have lp := hP4.b3.lt
           have s0 : (0 : Int) ≤ (k : Int) := by omega
           have s1 : (k : Int) < (m : Int) := by omega
           have hb := HBIT.out k
           have HKM := Lib.hid hkm
           clear hP4
           cases hbit : g.testBit k
           · rw [hbit] at hb
             simp only [Bool.false_eq_true, if_false] at hb
             have HF := Lib.hid hbit
             clear hbit
             go_wp2_with fail
             go_roundw
             case rel => exact ⟨k + 1, by go_num, by have := HKM.out; omega, by rw [setP_skip HF.out]; exact HP4.out⟩
             case measure => have := HKM.out; simp [intOf]; omega
           · rw [hbit] at hb
             simp only [if_true] at hb
             have HF := Lib.hid hbit
             clear hbit
             go_wp2_with fail
             go_roundw
             case rel => exact ⟨k + 1, by go_num, by have := HKM.out; omega, by rw [← setP_put HF.out]; exact HP4.out.set k _⟩
             case measure => have := HKM.out; simp [intOf]; omega
        have HSEG : Hid (segP (ivOf l own) f pl done fr g = nextP (ivOf l own) f (setP pl g ((done : Int) + 1) m) (done + many) (lo + 1)) := Lib.hid (by
         have := seg_next (iv := ivOf l own) (f := f) (pl := pl) (done := done) (fr := fr) (g := g) (by omega) (by rw [HIVL.out]; exact HG.out) (Int.not_lt.2 HLH.out) (by rw [HIVL.out]; exact hL)
         rw [HIVL.out] at this; exact this)
        have hmp := many_pos (by omega) (by rw [HM.out]; exact hgM) HGR.out
        have hpl2 := placed HP.out.len HDN.out HGR.out
        have hdm2 : done + many ≤ m := by rw [hpl2]; exact placed_le _ _
        have HIH := Lib.hid (IH (setP pl g ((done : Int) + 1) m) (done + many) (lo + 1) wr v (ll ++ segTo (ivOf l own) f pl done fr g) HPQ.out hpl2 (by omega) (by omega) (by omega) (by
         have := HTOT.out (g + 1) (by omega)
         rw [segTo_succ, List.length_append, HSEG.out] at this
         rw [List.length_append]; omega))
        rw [Int.natCast_add] at HIH
        have hw3 : IntKind.i64.wrap ((done : Int) + (many : Int)) = (done : Int) + (many : Int) := by rw [IntKind.wrap_i64]; omega
        have hw4 : IntKind.i64.wrap (lo + 1) = lo + 1 := by rw [IntKind.wrap_i64]; omega
        clear hL hpl2 hmp
        go_wp2_with fail
        refine HIH.out.mono ?_
        rintro e w3 ⟨v3, u3, rfl, hP3⟩
        have HST := Lib.hid hP3
        have c1' := hP3.b1.cell 0
        have c4' := hP3.b4.cell 0
        simp only [List.getElem?_toArray, List.getElem?_cons_zero] at c1' c4'
        clear hP3 HIH
        go_wp2_with fail
        go_loopw [136] (fun i w4 => ∃ (k : Nat), i = .int .i64 k ∧ k ≤ m ∧ NxW w4 W0 W0.heap.size (.slice al nl cl) (.slice oa m oc) m v3 (ll ++ segTo (ivOf l own) f pl done fr g ++ nextP (ivOf l own) f (setP pl g ((done : Int) + 1) m) (done + many) (lo + 1)) (setP (setP pl g ((done : Int) + 1) m) g 0 k)) (fun i _ => m - (intOf i).toNat)
        case atStart => exact ⟨0, rfl, by omega, by rw [setP_zero]; exact HST.out⟩
        case round =>
         obtain ⟨k, rfl, hk, hP4⟩ := hrel
         by_cases hkm : k < m
         rotate_left
         · obtain rfl : m = k := by omega
           rw [HUN.out] at hP4
           go_wp2_with fail
           go_roundw
           case rel => exact ⟨g + 1, _, by go_num, by omega, by omega, by rw [segTo_succ, ← List.append_assoc, HSEG.out]; exact hP4⟩
           case measure => simp [intOf]; omega
         have HP4 := Lib.hid hP4
         have c4' := hP4.b4.cell 0
         simp only [List.getElem?_toArray, List.getElem?_cons_zero] at c4'
         have hkl : k < pl.length := by rw [HP.out.len]; exact hkm
         have cp := hP4.at' (k := k) hkm
         have fp := hP4.b3.frozen k
         have lp := hP4.b3.lt
         have s0 : (0 : Int) ≤ (k : Int) := by omega
         have s1 : (k : Int) < (m : Int) := by omega
         have hb := HBIT.out k
         have HKM := Lib.hid hkm
         clear hP4
         cases hbit : g.testBit k
         · rw [hbit] at hb
           simp only [Bool.false_eq_true, if_false] at hb
           have HF := Lib.hid hbit
           clear hbit
           go_wp2_with fail
           go_roundw
           case rel => exact ⟨k + 1, by go_num, by have := HKM.out; omega, by rw [setP_skip HF.out]; exact HP4.out⟩
           case measure => have := HKM.out; simp [intOf]; omega
         · rw [hbit] at hb
           simp only [if_true] at hb
           have HF := Lib.hid hbit
           clear hbit
           go_wp2_with fail
           go_roundw
           case rel => exact ⟨k + 1, by go_num, by have := HKM.out; omega, by rw [← setP_put HF.out]; exact HP4.out.set k _⟩
           case measure => have := HKM.out; simp [intOf]; omega
      clear hP2
      have hkl : k < pl.length := by rw [HP.out.len]; exact hkm
      obtain ⟨ob, oo, rfl, hob⟩ := ho.at' (by omega)
      have hown1 := HOWN.out (own.getD k 0) (own_mem (by rw [ho.len]; assumption))
      have co1 := (ho.below (HPQ.out).bel).atI (i := k) (by assumption)
      obtain ⟨i, hi'⟩ : ∃ i : Nat, own.getD k 0 = (i : Int) := ⟨(own.getD k 0).toNat, by omega⟩
      obtain ⟨x, hX⟩ : ∃ x, l[i]? = some x := ⟨_, List.getElem?_eq_getElem (by omega)⟩
      have hil : i < nl := by rw [← HLEN.out]; omega
      obtain ⟨xb, xo, rfl, hxb⟩ := h0.at' (by omega)
      have hiv1 := iv_get (l := l) (own := own) (i := k) (by rw [ho.len]; assumption)
      rw [hi', show rsAt l (i : Int) = x from getD_of hX] at hiv1
      have HI1 := Lib.hid hiv1
      rw [hi'] at co1
      obtain ⟨r0, r1, r2, r3, r4, r5⟩ := (h0.below (HPQ.out).bel).rs6 hX
      have cp := (HPQ.out).at' (k := k) (by assumption)
      have c0' := (HPQ.out).b0.cell 0
      have c1' := (HPQ.out).b1.cell 0
      have c4' := (HPQ.out).b4.cell 0
      have fp := (HPQ.out).b3.frozen k
      have lp := (HPQ.out).b3.lt
      simp only [List.getElem?_toArray, List.getElem?_cons_zero] at c0' c1' c4'
      have s0 : (0 : Int) ≤ (k : Int) := by omega
      have s1 : (k : Int) < (m : Int) := by omega
      have s2 : (0 : Int) ≤ (i : Int) := by omega
      have s3 : (i : Int) < (nl : Int) := by omega
      have hb := HBIT.out k
      clear hX hown1 hi' hiv1
      have HLS := Lib.hid (late_succ (iv := ivOf l own) (pl := pl) (g := g) (lo := lo) k)
      rw [setP_getD hkl] at cp
      obtain ⟨L, hL⟩ : ∃ L, lateP (ivOf l own) pl g lo k = L := ⟨_, rfl⟩
      obtain ⟨y, hy⟩ : ∃ y, pl.getD k 0 = y := ⟨_, rfl⟩
      rw [hL, hy, HI1.out.2] at HLS
      rw [hy] at cp
      rw [hL]
      have HKM := Lib.hid hkm
      cases hbit : g.testBit k
      · rw [hbit] at hb cp HLS
        simp only [Bool.false_eq_true, if_false, Bool.false_and] at hb cp
        have HF := Lib.hid hbit
        clear hbit hL hy hkl
        cases L
        · by_cases hy0 : y = 0
          · subst hy0
            by_cases hxl : x.hi ≤ lo
            · have g5 : decide (x.hi ≤ lo) = true := by simpa using hxl
              have HLL : Hid (lateP (ivOf l own) pl g lo (k + 1) = true) := Lib.hid (by rw [HLS.out, g5]; rfl)
              clear hxl
              go_wp2_with fail
              go_roundw
              case rel => exact ⟨k + 1, by go_num, by rw [HLL.out], by have := HKM.out; omega, by rw [setP_skip HF.out]; exact HPQ.out⟩
              case measure => have := HKM.out; simp [intOf]; omega
            · have g5 : decide (x.hi ≤ lo) = false := by simpa using hxl
              have HLL : Hid (lateP (ivOf l own) pl g lo (k + 1) = false) := Lib.hid (by rw [HLS.out, g5]; rfl)
              clear hxl
              go_wp2_with fail
              go_roundw
              case rel => exact ⟨k + 1, by go_num, by rw [HLL.out], by have := HKM.out; omega, by rw [setP_skip HF.out]; exact HPQ.out⟩
              case measure => have := HKM.out; simp [intOf]; omega
          · have g5 : (y == 0) = false := by simpa using hy0
            have HLL : Hid (lateP (ivOf l own) pl g lo (k + 1) = false) := Lib.hid (by rw [HLS.out, decide_eq_false hy0]; rfl)
            clear hy0
            go_wp2_with fail
            go_roundw
            case rel => exact ⟨k + 1, by go_num, by rw [HLL.out], by have := HKM.out; omega, by rw [setP_skip HF.out]; exact HPQ.out⟩
            case measure => have := HKM.out; simp [intOf]; omega
        · have HLL : Hid (lateP (ivOf l own) pl g lo (k + 1) = true) := Lib.hid (by rw [HLS.out]; rfl)
          go_wp2_with fail
          go_roundw
          case rel => exact ⟨k + 1, by go_num, by rw [HLL.out], by have := HKM.out; omega, by rw [setP_skip HF.out]; exact HPQ.out⟩
          case measure => have := HKM.out; simp [intOf]; omega
      · rw [hbit] at hb cp HLS
        simp only [if_true] at hb
        have HF := Lib.hid hbit
        have HLL : Hid (lateP (ivOf l own) pl g lo (k + 1) = L) := Lib.hid (by rw [HLS.out]; simp)
        clear hbit hL hy hkl
        cases L <;>
        · go_wp2_with fail
          go_roundw
          case rel => exact ⟨k + 1, by go_num, by rw [HLL.out], by have := HKM.out; omega, by rw [← setP_put HF.out]; exact HPQ.out.set k _⟩
          case measure => have := HKM.out; simp [intOf]; omega
   have HPQ := Lib.hid (HP.out.drewN q)
   obtain ⟨ob, oo, rfl, hob⟩ := ho.at' (by omega)
   have hown1 := HOWN.out (own.getD k 0) (own_mem (by rw [ho.len]; assumption))
   have co1 := (ho.below (HPQ.out).bel).atI (i := k) (by assumption)
   obtain ⟨i, hi'⟩ : ∃ i : Nat, own.getD k 0 = (i : Int) := ⟨(own.getD k 0).toNat, by omega⟩
   obtain ⟨x, hX⟩ : ∃ x, l[i]? = some x := ⟨_, List.getElem?_eq_getElem (by omega)⟩
   have hil : i < nl := by rw [← HLEN.out]; omega
   obtain ⟨xb, xo, rfl, hxb⟩ := h0.at' (by omega)
   have hiv1 := iv_get (l := l) (own := own) (i := k) (by rw [ho.len]; assumption)
   rw [hi', show rsAt l (i : Int) = x from getD_of hX] at hiv1
   have HI1 := Lib.hid hiv1
   rw [hi'] at co1
   obtain ⟨r0, r1, r2, r3, r4, r5⟩ := (h0.below (HPQ.out).bel).rs6 hX
   have cp := (HPQ.out).at' (k := k) (by assumption)
   have c0' := (HPQ.out).b0.cell 0
   have c1' := (HPQ.out).b1.cell 0
   have c4' := (HPQ.out).b4.cell 0
   have fp := (HPQ.out).b3.frozen k
   have lp := (HPQ.out).b3.lt
   simp only [List.getElem?_toArray, List.getElem?_cons_zero] at c0' c1' c4'
   have s0 : (0 : Int) ≤ (k : Int) := by omega
   have s1 : (k : Int) < (m : Int) := by omega
   have s2 : (0 : Int) ≤ (i : Int) := by omega
   have s3 : (i : Int) < (nl : Int) := by omega
   have hb := HBIT.out k
   clear hX hown1 hi' hiv1
   cases hbit : g.testBit k
   · rw [hbit] at hb
     simp only [Bool.false_eq_true, if_false] at hb
     have HF := Lib.hid hbit
     clear hbit
     go_wp2_with fail
     go_roundw
     case rel => exact ⟨k + 1, lo, hi, many, q, by go_num, rfl, rfl, rfl, by omega, rfl, by omega, Lib.hid (grp_skip HG.out HF.out)⟩
     case measure => simp [intOf]; omega
   rw [hbit] at hb
   simp only [if_true] at hb
   have HF := Lib.hid hbit
   clear hbit
   obtain ⟨y, hy⟩ : ∃ y, pl.getD k 0 = y := ⟨_, rfl⟩
   rw [hy] at cp
   by_cases hp0 : y = 0
   rotate_left
   · have g2 : (y != 0) = true := by simpa using hp0
     have HNO : Hid (grpP (ivOf l own) pl g fr m = none) := Lib.hid (grp_none (grp_stop HG.out HF.out (by rw [hy]; exact hp0)) (by omega))
     clear hy hp0
     go_wp2_with fail
     go_roundw
     case rel => exact ⟨g + 1, _, by go_num, by omega, by omega, by rw [segTo_succ, seg_none (by rw [HIVL.out]; exact HNO.out), List.append_nil]; exact (HP.out.drewN q)⟩
     case measure => simp [intOf]; omega
   subst hp0
   have HY := Lib.hid hy
   have HKM := Lib.hid (And.intro hkm hmk)
   have hwm : IntKind.i64.wrap ((many : Int) + 1) = (many : Int) + 1 := by rw [IntKind.wrap_i64]; omega
   clear hy
   go_wp2_with fail
   go_region_held3 (fun w' => w'.cell? ⟨W0.heap.size, 0, none⟩ = some (.slice (some ⟨xb, xo, none⟩) nl cl) ∧ w'.cell? ⟨xb, xo + i * 6 + 3, none⟩ = some (.int .i64 x.lo) ∧ w'.cell? ⟨xb, xo + i * 6 + 4, none⟩ = some (.int .i64 x.hi))
    (first | exact ⟨c0', r3, r4⟩)
    (fail)
   all_goals
    go_wp2_with fail
    go_roundw
    case rel => exact ⟨k + 1, _, _, many + 1, _, by go_num, rfl, rfl, by go_num, by have := HKM.out; omega, rfl, by have := HKM.out; omega, Lib.hid (by rw [grp_take HG.out HF.out HY.out, HI1.out.1, HI1.out.2])⟩
    case measure => have := HKM.out; simp [intOf]; omega
theorem next_any (W0 : World) (al : Option Addr) (nl cl : Nat) (l : List Rs) (oa : Option Addr) (m oc : Nat) (own : List Int)
 (h0 : SL encRs 6 W0 al nl cl l) (ho : Ints W0 oa m oc own) (hown : ∀ i ∈ own, 0 ≤ i ∧ i < l.length) (hiv : OkIv (ivOf l own)) (hm : m ≤ 8) : ∀ f, NextC W0 W0.heap.size (.slice al nl cl) (.slice oa m oc) m (ivOf l own) f
 | 0 => fun pl done fr w v ll _ hdone hf _ _ _ => by
  have := placed_le pl m
  omega
 | f + 1 => next_step W0 al nl cl l oa m oc own f h0 ho hown hiv hm (next_any W0 al nl cl l oa m oc own h0 ho hown hiv hm f)
open Go.RowKit
theorem RowsB.mono {w : World} {base base' : Nat} {e : TypeId} {v : Value} {ll : List (List Int)} (h : RowsB w base e v ll) (hb : base' ≤ base) : RowsB w base' e v ll :=
 let ⟨us, h1, h2⟩ := h
 have key : ∀ {us ls}, ElemsB w base v.ownBlock us ls → ElemsB w base' v.ownBlock us ls := fun h => by
  induction h with
  | nil => exact .nil
  | cons h1 _ ih =>
   obtain ⟨a, n, c, e, hI, ho⟩ := h1
   exact .cons ⟨a, n, c, e, hI, fun hn => ⟨(ho hn).1, fun b e => Nat.le_trans hb ((ho hn).2 b e)⟩⟩ ih
 ⟨us, ownsRow_mono' h1 hb, key h2⟩
theorem RowsB.grown {w w' : World} {base : Nat} {e : TypeId} {v : Value} {ll : List (List Int)} {row : Option Nat} (h : RowsB w base e v ll) (hg : w.grownBy w' row) (hr : ∀ b, row = some b → b < base) : RowsB w' base e v ll := by
 have hlt := h.lt
 obtain ⟨us, h1, h2⟩ := h
 have hv : v.ownBlock = none ∨ v.ownBlock ≠ row := by
  cases hv : v.ownBlock with
  | none => exact .inl rfl
  | some b => exact .inr fun e2 => by have := hr b e2.symm; have := (hlt b hv).1; omega
 refine ⟨us, World.ownsRow.kept h1 hg hv, h2.mono fun x l ⟨a, n, c, e, hI, ho⟩ => ⟨a, n, c, e, hI.grown hg (fun hn e2 => ?_), ho⟩⟩
 · subst e
   obtain ⟨b, o, e3, _⟩ := hI.at' hn
   have h3 : (Value.slice a n c).ownBlock = some b := by rw [e3]; rfl
   have := hr b (by rw [← e2, h3])
   have := (ho hn).2 b h3
   omega
theorem tA_zero (n : Nat) : madeCells #[.int .i64 0] n = tA (List.replicate n 0) := by
 unfold tA
 rw [List.map_replicate]
 apply Array.ext
 · rw [size_madeCells]; simp
 · intro i h1 h2
   simp [madeCells, Nat.mod_one]
theorem make_tA (N : Nat) (hN : N ≤ 1000000) (w : World) : (Instr.makeSlice 22 (.int .i64 N) (.int .i64 N)).run Tryz.prog w = .ok (.slice (some ⟨w.heap.size, 0, none⟩) N N) (w.alloc (.cells (tA (List.replicate N 0)) 3)) := by
 obtain ⟨ib, hib, hb0, hb1, hb2⟩ := info_parts info_int
 have h := run_make (P := Tryz.prog) w 22 3 ib _ Tryz.underlying22 hib hb0 .i64 .i64 N N (by omega) (by omega) (by rw [hb2]; omega) (by omega)
 simp only [Int.toNat_natCast, hb1, Nat.mul_one] at h
 rw [← tA_zero]; exact h
theorem nxw_start (W : World) (sl so : Value) (m : Nat) : NxW ((((((W.alloc (.cells #[sl] 26)).alloc (.cells #[so] 22)).alloc (.cells #[.slice none 0 0] 106)).alloc (.cells (tA (List.replicate m 0)) 3)).alloc (.cells #[.slice (some ⟨W.heap.size + 3, 0, none⟩) m m] 22)).alloc (.cells #[.func (.func 117) #[] (capN W.heap.size)] 203)) W W.heap.size sl so m (.slice none 0 0) [] (List.replicate m 0) where
 b0 := (((((box_at W _ _ _ rfl).alloc _).alloc _).alloc _).alloc _).alloc _
 b1 := ((((box_at _ _ _ _ (by simp)).alloc _).alloc _).alloc _).alloc _
 b2 := (((box_at _ _ _ _ (by simp)).alloc _).alloc _).alloc _
 b3 := ((box_at _ _ _ _ (by simp)).alloc _).alloc _
 b4 := (box_at _ _ _ _ (by simp)).alloc _
 b5 := box_at _ _ _ _ (by simp)
 rows := RowsB.nil _ _ _
 len := List.length_replicate
 bel := (((((((Below.refl _ _).alloc (Nat.le_refl _) _).alloc (by simp) _).alloc (by simp; omega) _).alloc (by simp; omega) _).alloc (by simp; omega) _).alloc (by simp; omega) _)
theorem isP_rep (m : Nat) : ((List.range m).filter (isP (List.replicate m 0))).length = 0 := by
 rw [List.length_eq_zero_iff, List.filter_eq_nil_iff]
 intro i _
 unfold isP
 rw [rep_getD]; simp
set_option maxHeartbeats 4000000 in
theorem possible_any (al : Option Addr) (nl cl : Nat) (l : List Rs) (oa : Option Addr) (m oc : Nat) (own : List Int) (W : World)
 (h0 : SL encRs 6 W al nl cl l) (ho : Ints W oa m oc own) (hown : ∀ i ∈ own, 0 ≤ i ∧ i < l.length) (hiv : OkIv (ivOf l own)) (hm : m ≤ 8) (hc : (posL (ivOf l own)).length ≤ 4000) :
 Calls Tryz.prog 77 #[.slice al nl cl, .slice oa m oc] W fun e w' => ∃ v, e = .returned v ∧ RowsB w' W.heap.size 22 v (posL (ivOf l own)) ∧ Below W.heap.size W w' := by
 have hivl : (ivOf l own).length = m := by rw [ivOf_len, ho.len]
 have HPS : Hid (posL (ivOf l own) = nextP (ivOf l own) (m + 1) (List.replicate m 0) 0 0) := Lib.hid (by unfold posL; rw [hivl])
 have HN := next_any W al nl cl l oa m oc own h0 ho hown hiv hm (m + 1)
 have HC := Lib.hid (HN (List.replicate m 0) 0 0 _ _ [] (nxw_start W (.slice al nl cl) (.slice oa m oc) m) (isP_rep m).symm (by omega) (by omega) (by omega) (by rw [← HPS.out]; simpa using hc))
 have hmk := fun w => make_tA m (by omega) w
 clear HN hown hiv hc hivl h0 ho
 simp only [capN] at HC
 go_enter Tryz.func77, Tryz.ntmps77
 go_wp2_with fail
 refine HC.out.mono ?_
 rintro e w1 ⟨v1, u1, rfl, h1⟩
 have hR := h1.rows
 have hB := h1.bel
 rw [List.nil_append, ← HPS.out] at hR
 obtain ⟨av, cv, rfl, _⟩ := hR.rows.rows
 have hb2 := h1.b2
 obtain ⟨N, hN⟩ : ∃ N, (posL (ivOf l own)).length = N := ⟨_, rfl⟩
 have HR := Lib.hid hR
 rw [hN] at hb2 HR
 have c2 : w1.cell? ⟨W.heap.size + 1 + 1, 0, none⟩ = some (.slice av N cv) := by simpa using hb2.cell 0
 have f2 : w1.frozen? ⟨W.heap.size + 1 + 1, 0, none⟩ = false := hb2.frozen 0
 have l2 : W.heap.size + 1 + 1 < w1.heap.size := hb2.lt
 clear h1 hR hN hb2
 go_wp2_with fail
 have cs := World.cell?_setCell_same w1 ⟨W.heap.size + 1 + 1, 0, none⟩ (.slice av N cv) c2
 refine bodyPost_ret (v := .slice av N cv) (by simp [results, Tryz.results77, go_sem, cs]) rfl ?_
 exact ⟨_, rfl, (HR.out.set (by simp) _).mono (by omega), below_set hB (by omega) _⟩
end Go.Proofs.YtehoidohallfcaaGreatDoor
