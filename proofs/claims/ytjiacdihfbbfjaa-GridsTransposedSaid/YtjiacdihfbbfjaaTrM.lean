/- A square grid with columns and rows exchanged. Plain Lean, no walk here. -/
import Derived.Test.YtjiacdihfbbfjaaLinesM
import Derived.Test.YtjiacdihfbbfjaaCellM
namespace Go.Proofs.Ytjiacdihfbbfjaa
open Go.RowKit

def trP (w h p : Int) : Int := p % w * h + p / w
theorem trP_at {w h x y : Int} (hx : 0 ≤ x ∧ x < w) : (y * w + x) % w = x ∧ (y * w + x) / w = y ∧ trP w h (y * w + x) = x * h + y := by
  have e1 : (y * w + x) % w = x := by rw [Int.add_comm, Int.add_mul_emod_self_right]; exact Int.emod_eq_of_lt hx.1 hx.2
  have e2 : (y * w + x) / w = y := by rw [Int.add_comm, Int.add_mul_ediv_right _ _ (by omega), Int.ediv_eq_zero_of_lt hx.1 hx.2]; omega
  exact ⟨e1, e2, by unfold trP; rw [e1, e2]⟩
theorem xy_at {w h p : Int} (hw : 0 < w) (_ : 0 < h) (hp : 0 ≤ p ∧ p < w * h) : (0 ≤ p % w ∧ p % w < w) ∧ (0 ≤ p / w ∧ p / w < h) ∧ p = p / w * w + p % w := by
  refine ⟨⟨Int.emod_nonneg _ (by omega), Int.emod_lt_of_pos _ hw⟩, ⟨Int.ediv_nonneg hp.1 (by omega), Int.ediv_lt_of_lt_mul hw (by rw [Int.mul_comm]; exact hp.2)⟩, ?_⟩
  have := Int.emod_add_mul_ediv p w
  rw [Int.mul_comm w] at this
  omega
theorem area_lt {w h x y : Int} (hx : 0 ≤ x ∧ x < w) (hy : 0 ≤ y ∧ y < h) : 0 ≤ y * w + x ∧ y * w + x < w * h := by
  have h1 : 0 ≤ y * w := Int.mul_nonneg hy.1 (by omega)
  have h2 : (y + 1) * w ≤ h * w := Int.mul_le_mul_of_nonneg_right (by omega) (by omega)
  rw [Int.add_mul, Int.one_mul, Int.mul_comm h w] at h2
  omega
theorem trP_inv {w h p : Int} (hw : 0 < w) (hh : 0 < h) (hp : 0 ≤ p ∧ p < w * h) : (0 ≤ trP w h p ∧ trP w h p < h * w) ∧ trP h w (trP w h p) = p ∧ trP w h p % h = p / w ∧ trP w h p / h = p % w := by
  obtain ⟨hx, hy, e⟩ := xy_at hw hh hp
  have e1 : trP w h p = p % w * h + p / w := rfl
  obtain ⟨t1, t2, t3⟩ := trP_at (w := h) (h := w) (y := p % w) hy
  refine ⟨by rw [e1]; exact area_lt hy hx, by rw [e1, t3]; exact e.symm, by rw [e1]; exact t1, by rw [e1]; exact t2⟩

def turnedUpto (w h : Int) (holes : List Int) (k : Nat) : List Int := (ints k).filter fun pos => inL holes (trP h w pos)
theorem turned_succ (w h : Int) (holes : List Int) (k : Nat) : turnedUpto w h holes (k + 1) = if inL holes (trP h w k) = true then turnedUpto w h holes k ++ [(k : Int)] else turnedUpto w h holes k := by
  unfold turnedUpto
  rw [ints_succ, List.filter_append]
  cases hb : inL holes (trP h w k) <;> simp [hb]
theorem turned_le (w h : Int) (holes : List Int) (k : Nat) : (turnedUpto w h holes k).length ≤ k := by
  unfold turnedUpto; exact Nat.le_trans (List.length_filter_le _ _) (by rw [ints_len]; exact Nat.le_refl _)
theorem mem_turned {w h : Int} {holes : List Int} {k : Nat} {q : Int} : q ∈ turnedUpto w h holes k ↔ (0 ≤ q ∧ q < k) ∧ inL holes (trP h w q) = true := by
  unfold turnedUpto; rw [List.mem_filter, mem_ints]

/-- The grid and the turned one. -/
structure Turn (w h : Int) (A : Nat) (holes : List Int) (g t : Grid) : Prop where
  area : w * h = A
  wpos : 1 ≤ w ∧ w ≤ 16
  hpos : 1 ≤ h ∧ h ≤ 16
  mg : makeL 1 w h holes = some g
  mt : makeL 1 h w (turnedUpto w h holes A) = some t
theorem turn_make {w h : Int} {holes : List Int} {g : Grid} (hg : makeL 1 w h holes = some g) {A : Nat} (hA : w * h = A) : ∃ t, Turn w h A holes g t := by
  obtain ⟨hv, h1, h2, h3, h4⟩ := valid_make hg
  have hd := hv.dims
  rw [h2, h3] at hd
  have hA2 : h * w = A := by rw [Int.mul_comm]; exact hA
  have hpos := hv.pos
  rw [made_cells hg hA] at hpos
  obtain ⟨p, hp⟩ := List.exists_mem_of_ne_nil _ (List.length_pos_iff.1 hpos)
  obtain ⟨hp1, hp2⟩ := mem_cellsUpto.1 hp
  obtain ⟨hq, hinv, _⟩ := trP_inv (w := w) (h := h) (p := p) (by have := hd.2.1; omega) (by have := hd.2.2.2.1; omega) (by rw [hA]; exact hp1)
  rw [hA2] at hq
  have hlt : (turnedUpto w h holes A).length < A := by
    have : (turnedUpto w h holes A).length < (ints A).length := by
      unfold turnedUpto
      rw [List.length_filter_lt_length_iff_exists]
      exact ⟨trP w h p, mem_ints.2 hq, by rw [hinv, hp2]; simp⟩
    rwa [ints_len] at this
  have hok : okHoles (turnedUpto w h holes A) (h * w) := by
    rw [hA2]
    exact ⟨fun x hx => (mem_turned.1 hx).1, List.Pairwise.filter _ (ints_incr A)⟩
  refine ⟨⟨1, h, w, turnedUpto w h holes A, cellsUpto (h * w).toNat (turnedUpto w h holes A)⟩, hA, ⟨hd.2.1, hd.2.2.1⟩, ⟨hd.2.2.2.1, hd.2.2.2.2⟩, hg, ?_⟩
  unfold makeL
  rw [if_pos ⟨⟨.inl rfl, hd.2.2.2.1, hd.2.2.2.2, hd.2.1, hd.2.2.1⟩, hok, by rw [hA2]; omega⟩]
section
variable {w h : Int} {A : Nat} {holes : List Int} {g t : Grid}
theorem Turn.area2 (T : Turn w h A holes g t) : h * w = A := by rw [Int.mul_comm]; exact T.area
theorem Turn.gv (T : Turn w h A holes g t) : Valid g ∧ g.shape = 1 ∧ g.w = w ∧ g.h = h ∧ g.holes = holes := valid_make T.mg
theorem Turn.tv (T : Turn w h A holes g t) : Valid t ∧ t.shape = 1 ∧ t.w = h ∧ t.h = w ∧ t.holes = turnedUpto w h holes A := valid_make T.mt
theorem Turn.mem_g (T : Turn w h A holes g t) {p : Int} : p ∈ g.cells ↔ (0 ≤ p ∧ p < A) ∧ inL holes p = false := by rw [made_cells T.mg T.area]; exact mem_cellsUpto
theorem Turn.mem_t (T : Turn w h A holes g t) {q : Int} : q ∈ t.cells ↔ (0 ≤ q ∧ q < A) ∧ inL holes (trP h w q) = false := by
  rw [made_cells T.mt T.area2, mem_cellsUpto]
  constructor
  · rintro ⟨h1, h2⟩
    refine ⟨h1, ?_⟩
    cases hb : inL holes (trP h w q)
    · rfl
    · have : inL (turnedUpto w h holes A) q = true := List.contains_iff_mem.2 (mem_turned.2 ⟨h1, hb⟩)
      rw [this] at h2; cases h2
  · rintro ⟨h1, h2⟩
    refine ⟨h1, ?_⟩
    cases hb : inL (turnedUpto w h holes A) q
    · rfl
    · have := (mem_turned.1 (List.contains_iff_mem.1 hb)).2
      rw [this] at h2; cases h2
theorem Turn.to_t (T : Turn w h A holes g t) {p : Int} (hp : p ∈ g.cells) : trP w h p ∈ t.cells ∧ trP h w (trP w h p) = p ∧ trP w h p % h = p / w ∧ trP w h p / h = p % w := by
  obtain ⟨h1, h2⟩ := T.mem_g.1 hp
  obtain ⟨hq, hinv, h3, h4⟩ := trP_inv (w := w) (h := h) (p := p) (by have := T.wpos; omega) (by have := T.hpos; omega) (by rw [T.area]; exact h1)
  rw [T.area2] at hq
  exact ⟨T.mem_t.2 ⟨hq, by rw [hinv]; exact h2⟩, hinv, h3, h4⟩
theorem Turn.to_g (T : Turn w h A holes g t) {q : Int} (hq : q ∈ t.cells) : trP h w q ∈ g.cells ∧ trP w h (trP h w q) = q := by
  obtain ⟨h1, h2⟩ := T.mem_t.1 hq
  obtain ⟨hp, hinv, _⟩ := trP_inv (w := h) (h := w) (p := q) (by have := T.hpos; omega) (by have := T.wpos; omega) (by rw [T.area2]; exact h1)
  rw [T.area] at hp
  exact ⟨T.mem_g.2 ⟨hp, h2⟩, hinv⟩
theorem Turn.len (T : Turn w h A holes g t) : t.cells.length = g.cells.length := by
  have n1 : (g.cells.map (trP w h)).Nodup := by
    refine List.Pairwise.map _ ?_ (R := fun a b => a ∈ g.cells ∧ b ∈ g.cells ∧ a ≠ b) ?_
    · rintro a b ⟨ha, hb, hne⟩ e
      have e1 := (T.to_t ha).2.1
      rw [e, (T.to_t hb).2.1] at e1
      exact hne e1.symm
    · have := T.gv.1.incr
      exact List.Pairwise.imp_of_mem (fun ha hb h => ⟨ha, hb, by omega⟩) this
  have n2 : t.cells.Nodup := T.tv.1.incr.imp fun h => by omega
  have := ((List.perm_ext_iff_of_nodup n1 n2).2 fun q => by
    rw [List.mem_map]
    constructor
    · rintro ⟨p, hp, rfl⟩; exact (T.to_t hp).1
    · intro hq; exact ⟨trP h w q, (T.to_g hq).1, (T.to_g hq).2⟩).length_eq
  rw [List.length_map] at this
  exact this.symm
end
def toF (w h : Int) (g t : Grid) (c : Nat) : Int := idxL t.cells (trP w h (g.cells[c]?.getD 0))
section
variable {w h : Int} {A : Nat} {holes : List Int} {g t : Grid}
theorem idx_spec {l : List Int} {x : Int} (hm : x ∈ l) : ∃ k : Nat, k < l.length ∧ idxL l x = k ∧ l[k]?.getD 0 = x := by
  have hx : inL l x = true := List.contains_iff_mem.2 hm
  have h0 : 0 ≤ idxL l x := by
    have := List.mem_iff_getElem.1 hm
    by_cases hneg : idxL l x < 0
    · exfalso
      unfold idxL at hneg
      cases hf : l.findIdx? (· == x) with
      | none =>
        have := List.findIdx?_eq_none_iff.1 hf x hm
        simp at this
      | some k => rw [hf] at hneg; simp at hneg; omega
    · omega
  obtain ⟨q, h1, h2, h3⟩ := idxL_some h0
  exact ⟨q, h1, h2, h3⟩
/-- The cell c of the grid lies at the cell k of the turned one. -/
theorem Turn.at_ (T : Turn w h A holes g t) {c : Nat} (hc : c < g.cells.length) : ∃ k : Nat, k < g.cells.length ∧ toF w h g t c = k ∧ t.cells[k]?.getD 0 = trP w h (g.cells[c]?.getD 0) ∧ colL t k = rowL g c ∧ rowL t k = colL g c := by
  have hm := getD_mem g.cells c hc
  obtain ⟨h1, _, h3, h4⟩ := T.to_t hm
  obtain ⟨k, hk, e1, e2⟩ := idx_spec h1
  rw [T.len] at hk
  refine ⟨k, hk, e1, e2, ?_, ?_⟩
  · unfold colL rowL; rw [e2, T.tv.2.2.1, T.gv.2.2.1]; exact h3
  · unfold colL rowL; rw [e2, T.tv.2.2.1, T.gv.2.2.1]; exact h4
theorem Turn.surj (T : Turn w h A holes g t) {k : Nat} (hk : k < g.cells.length) : ∃ c : Nat, c < g.cells.length ∧ toF w h g t c = k := by
  have hk2 : k < t.cells.length := by rw [T.len]; exact hk
  have hm := getD_mem t.cells k hk2
  obtain ⟨h1, h2⟩ := T.to_g hm
  obtain ⟨c, hc, _, e⟩ := idx_spec h1
  refine ⟨c, hc, ?_⟩
  unfold toF
  rw [e, h2]
  refine idxL_hit hk2 (fun hmm => ?_) rfl
  obtain ⟨j, hj, e3⟩ := List.mem_take_iff_getElem.1 hmm
  have hj := Nat.lt_min.1 hj
  have := List.pairwise_iff_getElem.1 T.tv.1.incr j k (by omega) hk2 hj.1
  rw [List.getElem?_eq_getElem hk2] at e3
  simp only [Option.getD_some] at e3
  omega
theorem Turn.mono (T : Turn w h A holes g t) {a b : Nat} (hab : a < b) (hb : b < g.cells.length) (hs : rowL g a = rowL g b ∨ colL g a = colL g b) : toF w h g t a < toF w h g t b := by
  obtain ⟨ka, hka, ea, va, _, _⟩ := T.at_ (c := a) (by omega)
  obtain ⟨kb, hkb, eb, vb, _, _⟩ := T.at_ (c := b) hb
  have hp := List.pairwise_iff_getElem.1 T.gv.1.incr a b (by omega) hb hab
  have ga : g.cells[a]?.getD 0 = g.cells[a]'(by omega) := by rw [List.getElem?_eq_getElem (by omega)]; rfl
  have gb : g.cells[b]?.getD 0 = g.cells[b] := by rw [List.getElem?_eq_getElem hb]; rfl
  rw [← ga, ← gb] at hp
  have hma := (T.mem_g.1 (getD_mem g.cells a (by omega))).1
  have hmb := (T.mem_g.1 (getD_mem g.cells b hb)).1
  rw [← T.area] at hma hmb
  have hw := T.wpos
  have hh := T.hpos
  obtain ⟨xa, ya, eqa⟩ := xy_at (w := w) (h := h) (by omega) (by omega) hma
  obtain ⟨xb, yb, eqb⟩ := xy_at (w := w) (h := h) (by omega) (by omega) hmb
  unfold rowL colL at hs
  rw [T.gv.2.2.1] at hs
  have hlt : trP w h (g.cells[a]?.getD 0) < trP w h (g.cells[b]?.getD 0) := by
    unfold trP
    generalize g.cells[a]?.getD 0 = p at *
    generalize g.cells[b]?.getD 0 = q at *
    rcases hs with hs | hs
    · rw [hs] at eqa ya ⊢
      have hx : p % w < q % w := by omega
      have h1 : (p % w + 1) * h ≤ q % w * h := Int.mul_le_mul_of_nonneg_right (by omega) (by omega)
      rw [Int.add_mul, Int.one_mul] at h1
      omega
    · rw [hs] at eqa xa ⊢
      have hy : p / w < q / w := by
        refine Int.not_le.1 fun hle => ?_
        have := Int.mul_le_mul_of_nonneg_right hle (c := w) (by omega)
        omega
      omega
  rw [ea, eb]
  rw [← va, ← vb] at hlt
  refine Int.ofNat_lt.2 (Nat.not_le.1 fun hle => ?_)
  rcases Nat.lt_or_eq_of_le hle with h1 | h1
  · have := List.pairwise_iff_getElem.1 T.tv.1.incr kb ka (by rw [T.len]; exact hkb) (by rw [T.len]; exact hka) h1
    rw [List.getElem?_eq_getElem (by rw [T.len]; exact hka), List.getElem?_eq_getElem (by rw [T.len]; exact hkb)] at hlt
    simp only [Option.getD_some] at hlt
    omega
  · subst h1; omega

/-! ### the families and the neighbors -/
def toV (w h : Int) (g t : Grid) (l : List Int) : List Int := l.map fun c => toF w h g t c.toNat
theorem turn_groups {F F' : Nat → Option Int} (T : Turn w h A holes g t) (hF : ∀ c k : Nat, c < g.cells.length → k < g.cells.length → toF w h g t c = k → F' k = F c) (hs : ∀ a b : Nat, a < g.cells.length → b < g.cells.length → F a = F b → rowL g a = rowL g b ∨ colL g a = colL g b) (m : Int) :
    toV w h g t (grpL F g.cells.length m) = grpL F' g.cells.length m := by
  refine incr_ext ?_ (grpL_ok _ _ _).1 fun x => ?_
  · unfold toV
    refine List.Pairwise.map _ ?_ (R := fun a b => a ∈ grpL F g.cells.length m ∧ b ∈ grpL F g.cells.length m ∧ a < b) ?_
    · rintro a b ⟨ha, hb, hab⟩
      obtain ⟨ka, h1, h2, rfl⟩ := mem_grpL.1 ha
      obtain ⟨kb, h3, h4, rfl⟩ := mem_grpL.1 hb
      rw [Int.toNat_natCast, Int.toNat_natCast]
      exact T.mono (by omega) h3 (hs ka kb h1 h3 (by rw [h2, h4]))
    · exact List.Pairwise.imp_of_mem (fun ha hb h => ⟨ha, hb, h⟩) (grpL_ok F _ m).1
  · rw [mem_grpL]
    unfold toV
    rw [List.mem_map]
    constructor
    · rintro ⟨c, hc, rfl⟩
      obtain ⟨q, h1, h2, rfl⟩ := mem_grpL.1 hc
      obtain ⟨k, hk, e, _⟩ := T.at_ h1
      rw [Int.toNat_natCast]
      exact ⟨k, hk, by rw [hF q k h1 hk e]; exact h2, e⟩
    · rintro ⟨k, hk, h2, rfl⟩
      obtain ⟨c, hc, e⟩ := T.surj hk
      refine ⟨c, mem_grpL.2 ⟨c, hc, by rw [← hF c k hc hk e]; exact h2, rfl⟩, ?_⟩
      rw [Int.toNat_natCast]; exact e
theorem turn_lines {F F' : Nat → Option Int} (T : Turn w h A holes g t) (hF : ∀ c k : Nat, c < g.cells.length → k < g.cells.length → toF w h g t c = k → F' k = F c) (hs : ∀ a b : Nat, a < g.cells.length → b < g.cells.length → F a = F b → rowL g a = rowL g b ∨ colL g a = colL g b) :
    (linesL F g.cells.length).map (toV w h g t) = linesL F' g.cells.length := by
  unfold linesL
  rw [List.map_map]
  have hg := turn_groups T hF hs
  have e : (lineNos.filter fun n => grpL F g.cells.length n != []) = lineNos.filter fun n => grpL F' g.cells.length n != [] := by
    refine List.filter_congr fun n _ => ?_
    rw [← hg n]
    unfold toV
    cases grpL F g.cells.length n <;> rfl
  rw [e]
  exact List.map_congr_left fun n _ => hg n
theorem turn_rows (T : Turn w h A holes g t) : (famL g 1).map (toV w h g t) = famL t 2 := by
  have e1 : famL g 1 = linesL (rowF g) g.cells.length := by simp [famL]
  have e2 : famL t 2 = linesL (colF t) g.cells.length := by simp [famL, T.len]
  rw [e1, e2]
  refine turn_lines T (fun c k hc hk e => ?_) (fun a b ha hb e => ?_)
  · obtain ⟨k', _, e', _, h1, _⟩ := T.at_ hc
    obtain rfl : k = k' := by omega
    unfold rowF colF numOf
    rw [plc_one T.gv.2.1, plc_one T.tv.2.1, h1]
  · left
    unfold rowF numOf at e
    rw [plc_one T.gv.2.1, plc_one T.gv.2.1] at e
    exact Option.some.inj e
theorem turn_cols (T : Turn w h A holes g t) : (famL g 2).map (toV w h g t) = famL t 1 := by
  have e1 : famL g 2 = linesL (colF g) g.cells.length := by simp [famL]
  have e2 : famL t 1 = linesL (rowF t) g.cells.length := by simp [famL, T.len]
  rw [e1, e2]
  refine turn_lines T (fun c k hc hk e => ?_) (fun a b ha hb e => ?_)
  · obtain ⟨k', _, e', _, _, h1⟩ := T.at_ hc
    obtain rfl : k = k' := by omega
    unfold rowF colF numOf
    rw [plc_one T.gv.2.1, plc_one T.tv.2.1, h1]
  · right
    unfold colF numOf at e
    rw [plc_one T.gv.2.1, plc_one T.gv.2.1] at e
    exact Option.some.inj e
theorem besS_swap (x y : Int) : besS y x = besS x y := by
  unfold besS; rw [Bool.eq_iff_iff]; simp only [Bool.or_eq_true, Bool.and_eq_true, beq_iff_eq]; omega
theorem turn_beside (T : Turn w h A holes g t) {a b ka kb : Nat} (ha : a < g.cells.length) (hb : b < g.cells.length) (ea : toF w h g t a = ka) (eb : toF w h g t b = kb) : besideB t ka kb = besideB g a b := by
  obtain ⟨k1, _, e1, _, a1, a2⟩ := T.at_ ha
  obtain ⟨k2, _, e2, _, b1, b2⟩ := T.at_ hb
  obtain rfl : ka = k1 := by omega
  obtain rfl : kb = k2 := by omega
  unfold besideB
  rw [if_pos T.tv.2.1, if_pos T.gv.2.1, a1, a2, b1, b2]
  exact besS_swap _ _
end
end Go.Proofs.Ytjiacdihfbbfjaa
