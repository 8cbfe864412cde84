/- What grids.Regions answers. Plain Lean, no walk here. -/
import Derived.Test.YtjiacdihfbbfjaaGCell
import Derived.Test.YtjiacdihfbbfjaaLins
import Derived.WalkKit
import Derived.WalkSpells
import Derived.WalkLawsBesides
import Derived.Deep.LoopGhost
import Derived.Deep.QuietTactic
import Derived.BigQuiet
import Derived.StillTailTactics
import Derived.Lib.Hide
import Derived.Outline
import Derived.Lib.QuietBelow
namespace Go.Proofs.Ytjiacdihfbbfjaa
open Go.RowKit

def idxs (cs x : List Int) : List Int := x.map (idxL cs)
def regOk (cs x : List Int) : Bool := x.all (inL cs) && decide ((idxs cs x).Nodup) && decide (x ≠ [])
def regAll (g : Grid) (ll : List (List Int)) : Bool := decide (checkErr g = 0) && decide (ll.length ≤ 64) && ll.all (regOk g.cells)
def regOut (g : Grid) (ll : List (List Int)) : List (List Int) := if regAll g ll = true then ll.map (idxs g.cells) else []
def regErr (g : Grid) (ll : List (List Int)) : Int := if regAll g ll = true then 0 else 130
theorem idxs_take (cs x : List Int) {k : Nat} (h : k < x.length) : idxs cs (x.take (k + 1)) = idxs cs (x.take k) ++ [idxL cs (x[k]?.getD 0)] := by unfold idxs; rw [take_getD x k h]; simp
theorem reg_out {cs x : List Int} {k : Nat} (hk : k < x.length) (h : inL cs (x[k]?.getD 0) = false) : regOk cs x = false := by
  unfold regOk
  rw [Bool.and_eq_false_iff, Bool.and_eq_false_iff]
  exact .inl (.inl (by rw [List.all_eq_false]; exact ⟨_, getD_mem x k hk, by rw [h]; simp⟩))
theorem reg_dup {cs x : List Int} {k : Nat} (hk : k < x.length) (h : idxL cs (x[k]?.getD 0) ∈ idxs cs (x.take k)) : regOk cs x = false := by
  unfold regOk
  rw [Bool.and_eq_false_iff, Bool.and_eq_false_iff]
  refine .inl (.inr (decide_eq_false fun hn => ?_))
  have e : x = x.take (k + 1) ++ x.drop (k + 1) := (List.take_append_drop _ _).symm
  have hn2 : (idxs cs (x.take (k + 1))).Nodup := by
    unfold idxs at hn ⊢
    rw [e, List.map_append] at hn
    exact (List.nodup_append.1 hn).1
  rw [idxs_take cs x hk] at hn2
  exact (List.nodup_append.1 hn2).2.2 _ h _ (List.mem_singleton.2 rfl) rfl
theorem reg_yes {cs x : List Int} (h1 : ∀ y ∈ x, inL cs y = true) (h2 : (idxs cs x).Nodup) (h3 : x ≠ []) : regOk cs x = true := by
  unfold regOk
  rw [Bool.and_eq_true, Bool.and_eq_true]
  exact ⟨⟨List.all_eq_true.2 h1, decide_eq_true h2⟩, decide_eq_true h3⟩
theorem reg_nil (cs : List Int) : regOk cs [] = false := by unfold regOk; simp
theorem regAll_bad {g : Grid} {ll : List (List Int)} {i : Nat} (hi : i < ll.length) (h : regOk g.cells (ll[i]?.getD []) = false) : regAll g ll = false := by
  unfold regAll
  rw [Bool.and_eq_false_iff]
  refine .inr ?_
  rw [List.all_eq_false]
  refine ⟨_, ?_, by rw [h]; simp⟩
  rw [List.getElem?_eq_getElem hi]; exact List.getElem_mem _
theorem take_rows {ll : List (List Int)} {k : Nat} (h : k < ll.length) : ll.take (k + 1) = ll.take k ++ [ll[k]?.getD []] := by
  rw [List.take_succ_eq_append_getElem h, List.getElem?_eq_getElem h]; rfl
end Go.Proofs.Ytjiacdihfbbfjaa

/- What Family answers, by the program and by the reference. Plain Lean, no walk here. -/
namespace Go.Proofs.Ytjiacdihfbbfjaa
open Go.RowKit

def cellsF (k : Nat) : List (List Int) := (List.range k).map fun (c : Nat) => [(c : Int)]
def nearRow (g : Grid) (c : Nat) : List Int := sortI (nbRow g c g.cells.length ++ [(c : Int)])
def nearF (g : Grid) (k : Nat) : List (List Int) := (List.range k).map (nearRow g)
def pairRow (l : List Int) (c : Nat) : List (List Int) := (l.filter fun b => decide ((c : Int) < b)).map fun b => [(c : Int), b]
def pairsF (g : Grid) (k : Nat) : List (List Int) := (List.range k).flatMap fun c => pairRow (nbRow g c g.cells.length) c
def mainF (g : Grid) : Nat → Option Int := numOf g (fun p => if p.1 = p.2 then some 0 else none)
def antiF (g : Grid) : Nat → Option Int := numOf g (fun p => if p.1 + p.2 = g.w - 1 then some 0 else none)
def two (a b : List Int) : List (List Int) := (if a = [] then [] else [a]) ++ (if b = [] ∨ a = b then [] else [b])
def diagL (g : Grid) : List (List Int) := if g.w = g.h then two (grpL (mainF g) g.cells.length 0) (grpL (antiF g) g.cells.length 0) else []
def famL (g : Grid) (f : Int) : List (List Int) :=
  if f = 0 then cellsF g.cells.length
  else if f = 1 then linesL (rowF g) g.cells.length
  else if f = 2 then linesL (colF g) g.cells.length
  else if f = 3 then (if g.shape = 2 then linesL (sumF g) g.cells.length else diagL g)
  else if f = 4 then nbL g
  else if f = 5 then nearF g g.cells.length
  else if f = 6 then pairsF g g.cells.length
  else if f = 7 then [ints g.cells.length]
  else []
def famErr (g : Grid) (f : Int) : Int := if checkErr g = 0 then (if 0 ≤ f ∧ f ≤ 7 then 0 else 1) else 130
def famOut (g : Grid) (f : Int) : List (List Int) := if checkErr g = 0 then famL g f else []

theorem nbL_len (g : Grid) : (nbL g).length = g.cells.length := by unfold nbL nbUpto; simp
theorem nbL_get (g : Grid) {k : Nat} (h : k < g.cells.length) : (nbL g)[k]?.getD [] = nbRow g k g.cells.length := by unfold nbL nbUpto; simp [h]
theorem cellsF_succ (k : Nat) : cellsF (k + 1) = cellsF k ++ [[(k : Int)]] := by unfold cellsF; rw [List.range_succ]; simp
theorem cellsF_len (k : Nat) : (cellsF k).length = k := by unfold cellsF; simp
theorem nearF_succ (g : Grid) (k : Nat) : nearF g (k + 1) = nearF g k ++ [nearRow g k] := by unfold nearF; rw [List.range_succ]; simp
theorem nearF_len (g : Grid) (k : Nat) : (nearF g k).length = k := by unfold nearF; simp
theorem pairsF_succ (g : Grid) (k : Nat) : pairsF g (k + 1) = pairsF g k ++ pairRow (nbRow g k g.cells.length) k := by unfold pairsF; rw [List.range_succ]; simp
theorem pairRow_len (l : List Int) (c : Nat) : (pairRow l c).length ≤ l.length := by unfold pairRow; rw [List.length_map]; exact List.length_filter_le _ _
theorem pairRow_take (l : List Int) (c : Nat) {j : Nat} (h : j < l.length) : pairRow (l.take (j + 1)) c = pairRow (l.take j) c ++ (if (c : Int) < l[j]?.getD 0 then [[(c : Int), l[j]?.getD 0]] else []) := by
  unfold pairRow
  rw [take_getD l j h, List.filter_append, List.map_append]
  congr 1
  by_cases hc : (c : Int) < l[j]?.getD 0
  · simp [hc]
  · simp [hc]
theorem pairsF_len (g : Grid) : ∀ k, (pairsF g k).length ≤ k * g.cells.length
  | 0 => by simp [pairsF]
  | k + 1 => by
    rw [pairsF_succ, List.length_append, Nat.succ_mul]
    have h1 := pairsF_len g k
    have h2 := pairRow_len (nbRow g k g.cells.length) k
    have h3 := nbRow_le g k g.cells.length
    omega

/-! ### lines that are numbered by 0 alone -/
theorem lines_one {f : Nat → Option Int} {k : Nat} (h : ∀ c n, f c = some n → n = 0) : linesL f k = if grpL f k 0 = [] then [] else [grpL f k 0] := by
  unfold linesL
  have e : (lineNos.filter fun n => grpL f k n != []) = if grpL f k 0 = [] then [] else [0] := by
    have h0 : ∀ n, n ≠ 0 → grpL f k n = [] := fun n hn => by
      apply Classical.byContradiction
      intro he
      obtain ⟨c, _, h2⟩ := grpL_ne.1 he
      exact hn (h c n h2)
    refine incr_ext (List.Pairwise.filter _ lineNos_lt) (by split <;> simp) fun x => ?_
    rw [List.mem_filter, mem_lineNos]
    simp only [bne_iff_ne, ne_eq]
    by_cases hx : x = 0
    · subst hx
      by_cases hg : grpL f k 0 = []
      · simp [hg]
      · simp [hg]
    · have := h0 x hx
      simp only [this, not_true_eq_false, and_false, false_iff]
      split <;> simp [hx]
  rw [e]
  split <;> simp
theorem main_one {g : Grid} : ∀ c n, mainF g c = some n → n = 0 := by
  intro c n h; unfold mainF numOf at h
  dsimp only at h
  split at h
  · exact (Option.some.inj h).symm
  · cases h
theorem anti_one {g : Grid} : ∀ c n, antiF g c = some n → n = 0 := by
  intro c n h; unfold antiF numOf at h
  dsimp only at h
  split at h
  · exact (Option.some.inj h).symm
  · cases h

/-! ### the reference's forms -/
theorem besides_irrefl (g : Grid) (c : Nat) : besideB g c c = false := by
  unfold besideB
  split
  · simp [besS]
  · simp [besH]
theorem mem_nbRow {g : Grid} {c k : Nat} {x : Int} : x ∈ nbRow g c k ↔ ∃ b : Nat, b < k ∧ x = b ∧ besideB g c b = true := by
  unfold nbRow
  simp only [List.mem_map, List.mem_filter, List.mem_range]
  constructor
  · rintro ⟨b, ⟨h1, h2⟩, rfl⟩; exact ⟨b, h1, rfl, h2⟩
  · rintro ⟨b, h1, rfl, h2⟩; exact ⟨b, ⟨h1, h2⟩, rfl⟩
def nearR (g : Grid) (c k : Nat) : List Int := ((List.range k).filter fun b => decide (b = c) || inL (nbRow g c g.cells.length) b).map Int.ofNat
theorem nearR_succ (g : Grid) (c k : Nat) : nearR g c (k + 1) = nearR g c k ++ (if k = c ∨ inL (nbRow g c g.cells.length) k = true then [(k : Int)] else []) := by
  unfold nearR
  rw [List.range_succ, List.filter_append, List.map_append]
  congr 1
  by_cases h : k = c ∨ inL (nbRow g c g.cells.length) k = true
  · rw [if_pos h]
    have : (decide (k = c) || inL (nbRow g c g.cells.length) k) = true := by simpa using h
    simp [this]
  · rw [if_neg h]
    have : (decide (k = c) || inL (nbRow g c g.cells.length) k) = false := by simpa using h
    simp only [List.filter_cons, List.filter_nil, this]
    rfl
theorem nearR_le (g : Grid) (c k : Nat) : (nearR g c k).length ≤ k := by
  unfold nearR; rw [List.length_map]; exact Nat.le_trans (List.length_filter_le _ _) (by simp)
theorem nearRow_lt (g : Grid) (c : Nat) : (nearRow g c).Pairwise (· < ·) := by
  unfold nearRow
  refine sortI_lt ?_
  rw [List.nodup_append]
  refine ⟨(nbRow_incr g c _).imp (fun h => by omega), by simp, fun a ha b hb e => ?_⟩
  rw [List.mem_singleton.1 hb] at e
  obtain ⟨q, _, e2, h3⟩ := mem_nbRow.1 ha
  have : q = c := by omega
  subst this
  rw [besides_irrefl] at h3; cases h3
theorem mem_nearRow {g : Grid} {c : Nat} {x : Int} : x ∈ nearRow g c ↔ x ∈ nbRow g c g.cells.length ∨ x = c := by
  unfold nearRow; rw [mem_sortI, List.mem_append, List.mem_singleton]
theorem near_eq {g : Grid} {c : Nat} (hc : c < g.cells.length) : nearR g c g.cells.length = nearRow g c := by
  refine incr_ext ?_ (nearRow_lt g c) fun x => ?_
  · unfold nearR
    exact List.Pairwise.map _ (fun a b h => by simp; omega) (List.Pairwise.filter _ (List.pairwise_lt_range (n := g.cells.length)))
  · rw [mem_nearRow]
    unfold nearR inL
    simp only [List.mem_map, List.mem_filter, List.mem_range, Bool.or_eq_true, decide_eq_true_eq, List.contains_iff_mem]
    constructor
    · rintro ⟨b, ⟨h1, h2⟩, rfl⟩
      rcases h2 with rfl | h2
      · exact .inr rfl
      · exact .inl h2
    · rintro (h | rfl)
      · obtain ⟨b, h1, rfl, h2⟩ := mem_nbRow.1 h
        exact ⟨b, ⟨h1, .inr h⟩, rfl⟩
      · exact ⟨c, ⟨hc, .inl rfl⟩, rfl⟩

/-- The reference's number of a line. -/
def lineNo (g : Grid) (f : Int) (c : Nat) : Int := if f = 1 then rowL g c else if g.shape = 1 then colL g c else if f = 2 then axisL g c else axisL g c + rowL g c
def refLines (g : Grid) (f : Int) : List (List Int) := linesL (fun c => some (lineNo g f c)) g.cells.length
theorem grpL_ext {f f' : Nat → Option Int} {k : Nat} (h : ∀ c, c < k → f c = f' c) (n : Int) : grpL f k n = grpL f' k n := by
  unfold grpL
  congr 1
  exact List.filter_congr fun c hc => by rw [h c (List.mem_range.1 hc)]
theorem linesL_ext {f f' : Nat → Option Int} {k : Nat} (h : ∀ c, c < k → f c = f' c) : linesL f k = linesL f' k := by
  unfold linesL
  have e : grpL f k = grpL f' k := funext fun n => grpL_ext h n
  rw [e]
theorem refLines_eq {g : Grid} (hv : Valid g) {f : Int} (hf : f = 1 ∨ f = 2 ∨ (f = 3 ∧ g.shape = 2)) : refLines g f = famL g f := by
  unfold refLines famL
  have h12 := hv.dims.1
  rcases hf with rfl | rfl | ⟨rfl, hs⟩
  · simp only [if_true, show ¬ (1 : Int) = 0 by decide, if_false]
    refine linesL_ext fun c hc => ?_
    unfold lineNo rowF numOf
    rw [if_pos rfl]
    rcases h12 with h | h
    · rw [plc_one h]
    · rw [plc_two hv h hc]
  · simp only [show ¬ (2 : Int) = 0 by decide, show ¬ (2 : Int) = 1 by decide, if_false, if_true]
    refine linesL_ext fun c hc => ?_
    unfold lineNo colF numOf
    simp only [show ¬ (2 : Int) = 1 by decide, if_false, if_true]
    rcases h12 with h | h
    · rw [plc_one h, if_pos h]
    · rw [plc_two hv h hc, if_neg (by omega)]
  · simp only [show ¬ (3 : Int) = 0 by decide, show ¬ (3 : Int) = 1 by decide, show ¬ (3 : Int) = 2 by decide, if_false, if_true, if_pos hs]
    refine linesL_ext fun c hc => ?_
    unfold lineNo sumF numOf
    simp only [show ¬ (3 : Int) = 1 by decide, show ¬ (3 : Int) = 2 by decide, if_false]
    rw [plc_two hv hs hc, if_neg (by omega)]
theorem main_grp {g : Grid} (hs : g.shape = 1) (k : Nat) : grpL (mainF g) k 0 = ((List.range k).filter fun c => decide (colL g c = rowL g c)).map Int.ofNat := by
  unfold grpL
  congr 1
  refine List.filter_congr fun c _ => ?_
  unfold mainF numOf
  rw [plc_one hs]
  by_cases h : colL g c = rowL g c <;> simp [h]
theorem anti_grp {g : Grid} (hs : g.shape = 1) (k : Nat) : grpL (antiF g) k 0 = ((List.range k).filter fun c => decide (colL g c = g.w - 1 - rowL g c)).map Int.ofNat := by
  unfold grpL
  congr 1
  refine List.filter_congr fun c _ => ?_
  unfold antiF numOf
  rw [plc_one hs]
  by_cases h : colL g c = g.w - 1 - rowL g c
  · have h2 : colL g c + rowL g c = g.w - 1 := by omega
    simp [h]
  · have h2 : ¬ colL g c + rowL g c = g.w - 1 := by omega
    simp only [h2, if_false, h, decide_false]
    rfl
/-- A row of cells by a test. -/
def selL (p : Nat → Bool) (k : Nat) : List Int := ((List.range k).filter p).map Int.ofNat
theorem selL_succ (p : Nat → Bool) (k : Nat) : selL p (k + 1) = if p k = true then selL p k ++ [(k : Int)] else selL p k := by
  unfold selL
  rw [List.range_succ, List.filter_append, List.map_append]
  cases h : p k <;> simp [h]
theorem selL_le (p : Nat → Bool) (k : Nat) : (selL p k).length ≤ k := by
  unfold selL; rw [List.length_map]; exact Nat.le_trans (List.length_filter_le _ _) (by simp)
end Go.Proofs.Ytjiacdihfbbfjaa

/- grids.Family at the families of cells, neighbors, near cells, pairs and all cells; at no family. -/
namespace Go.Proofs.Ytjiacdihfbbfjaa
open Go.RowKit

theorem cell_two_new (w : World) (o : Obj) (u : Value) (e : TypeId) : ∀ (j : Nat) (x : Value), ([u] : List Value)[j]? = some x → ((w.alloc o).alloc (.cells #[u] e)).cell? ((⟨w.heap.size + 1, 0, none⟩ : Addr).add j) = some x := by
  have h := cell_one_new (w.alloc o) u e
  simpa using h
theorem ints_lit_fam {w : World} {B : Nat} (l : List Int) {cs : Array Value} (h : Box w B cs 3) (hc : cs = (l.map (Value.int .i64)).toArray) (hl : l.length ≤ 1000000) : Ints w (some ⟨B, 0, none⟩) l.length l.length l := by
  refine ⟨rfl, Nat.le_refl _, by unfold maxLen; omega, fun _ => ⟨B, 0, rfl, h.lt⟩, fun b o e i hi => ?_⟩
  obtain ⟨rfl, rfl⟩ : B = b ∧ 0 = o := by simpa using e
  rw [Nat.zero_add, h.cell, hc]
  simp [hi]
theorem own_lit1 {w : World} {B : Nat} {u : Value} {t : TypeId} (h : Box w B #[u] t) (base : Nat) (hb : base ≤ B) : w.ownsRow base t 1 (.slice (some ⟨B, 0, none⟩) 1 1) 1 [u] :=
  ⟨rfl, .inr ⟨B, 1, #[u], rfl, hb, h, Nat.le_refl _, by simp [maxLen], rfl, rfl⟩⟩
theorem OwnRows.one {w : World} {base : Nat} {e : TypeId} {a : Option Addr} {n c : Nat} {l : List Int} (hI : Ints w a n c l) (hb : base ≤ w.heap.size) : OwnRows (w.alloc (.cells #[.slice a n c] e)) base e (.slice (some ⟨w.heap.size, 0, none⟩) 1 1) [l] := by
  refine ⟨[.slice a n c], own_lit1 (Box.new w _ e) base hb, .cons ⟨a, n, c, rfl, hI.below ((Below.refl _ _).alloc (Nat.le_refl _) _), fun hn => ?_⟩ .nil⟩
  obtain ⟨b, o, rfl, hl⟩ := hI.at' hn
  intro e
  simp [Value.ownBlock] at e
  omega
theorem push_new {wo w' : World} {base L : Nat} {v v' : Value} {ll : List (List Int)} {us : List Value} {l : List Int} {n : Nat} (hn : l.length = n) (h0 : 0 < n) (hs : l.length ≤ 1000)
    (hE : Elems wo v.ownBlock us ll) (hu : wo.ownsRow base 22 1 v L us) (hL : ll.length = L)
    (hown' : w'.ownsRow base 22 1 v' (L + 1) (us ++ [.slice (some ⟨wo.heap.size, 0, none⟩) n n]))
    (hg : ((wo.alloc (.cells (l.map (Value.int .i64)).toArray 3)).alloc (.cells #[.slice (some ⟨wo.heap.size, 0, none⟩) n n] 22)).grownBy w' v.ownBlock) (hfr : v'.ownBlock = v.ownBlock ∨ v'.ownBlock = some ((wo.alloc (.cells (l.map (Value.int .i64)).toArray 3)).alloc (.cells #[.slice (some ⟨wo.heap.size, 0, none⟩) n n] 22)).heap.size) : OwnRows w' base 22 v' (ll ++ [l]) := by
  subst hn hL
  have b1 := ints_lit_fam l (Box.new wo (l.map (Value.int .i64)).toArray 3) rfl (by omega)
  refine OwnRows.push (hE.mono fun _ _ hu => (hu.below ((Below.refl _ _).alloc (Nat.le_refl _) _)).below ((Below.refl _ _).alloc (Nat.le_refl _) _)) hown' hg hfr (b1.below ((Below.refl _ _).alloc (Nat.le_refl _) _)) (fun _ e => ?_)
  have := (hu.lt wo.heap.size (by rw [← e]; rfl)).2
  omega
set_option maxRecDepth 20000 in
set_option maxHeartbeats 2000000 in
theorem fam_cells (g : Grid) (ah ac : Option Addr) (nh ch nc cc : Nat) (W : World) (h1 : Ints W ah nh ch g.holes) (h2 : Ints W ac nc cc g.cells) (hn : nh ≤ 10000000) (hm : nc ≤ 10000000000) (he : checkErr g = 0) : Calls Try.prog 47 #[.agg #[.int .i64 g.shape, .int .i64 g.w, .int .i64 g.h, .slice ah nh ch, .slice ac nc cc], .int .i64 0] W (RetRowsE W 22 (cellsF nc) 0) := by
  have hv := valid_of he
  have hal : Below W.heap.size W (W.alloc (.cells #[.int .i64 g.shape, .int .i64 g.w, .int .i64 g.h, .slice ah nh ch, .slice ac nc cc] 24)) := (Below.refl _ _).alloc (Nat.le_refl _) _
  have hc := neighbors_any g ah ac nh ch nc cc _ (h1.below hal) (h2.below hal) hn hm
  have hnb : nbOut g = nbL g := by unfold nbOut; rw [if_pos he]
  rw [he, hnb] at hc
  have HC := Lib.hid hc
  have hx := Box.new W #[.int .i64 g.shape, .int .i64 g.w, .int .i64 g.h, .slice ah nh ch, .slice ac nc cc] 24
  have hnl := h2.len
  have h256 := hv.len
  have HV := Lib.hid hv
  rw [hnl] at h256
  have HNL := Lib.hid hnl
  clear hc hv he hnb hnl
  go_enter Try.func47, Try.ntmps47
  go_wp2_with fail
  refine HC.out.mono ?_
  rintro e w1 ⟨v1, rfl, hO1, hB1⟩
  have hx1 := hx.below hB1
  have hxl := hx1.lt
  have hB2 := hal.on hB1
  obtain ⟨d0, d1, d2, d3, d4⟩ := hx1.g5
  clear hx hB1 hal
  obtain ⟨i22, hi22, hz220, hz221, hz222⟩ := info_parts info_ints
  go_wp2_with fail
  go_loopw [4, 31] (fun v c wr => ∃ k : Nat, k ≤ nc ∧ c = .int .i64 k ∧ OwnRows wr w1.heap.size 22 v (cellsF k) ∧ Below w1.heap.size w1 wr) (fun _ c _ => nc - (intOf c).toNat)
  case atStart => exact ⟨0, by omega, rfl, OwnRows.nil _ _ _, Below.refl _ _⟩
  case round =>
    obtain ⟨k, hk, rfl, hO, hBo⟩ := hrel
    obtain ⟨wo, rfl⟩ : ∃ wo, wo = wr := ⟨_, rfl⟩
    have hso := hBo.size
    by_cases hlt : k < nc
    · obtain ⟨ao, co, rfl, _⟩ := hO.rows
      obtain ⟨us, hus2, hE⟩ := hO
      rw [cellsF_len] at hus2 hE ⊢
      have hl := hus2.lt
      go_wp2_with (at_builtin; refine wpList_append_own2 _ rfl _ _ 28 rfl w1.heap.size 22 i22 (.slice none 0 0) 1 24 Try.underlying28 hi22 hz220 hz221 hz222 rfl (by decide) _ _ _ ((hus2.alloc _).alloc _) rfl ⟨_, 0, none⟩ 1 1 [(.slice (some ⟨wo.heap.size, 0, none⟩) 1 1)] rfl rfl (cell_two_new _ _ _ _) (by simp [Value.oneCell']) (by unfold maxLen; omega) (by omega) (by first | omega | (simp; omega)) ?_; intro v' w1 hown' hgrow hfr)
      go_roundw
      case rel =>
        refine ⟨k + 1, by omega, by go_num, ?_, ((hBo.alloc (by omega) _).alloc (by simp; omega) _).grown hgrow (by simp; omega) (fun q e => (hl q e).1)⟩
        rw [cellsF_succ]
        exact push_new (l := [(k : Int)]) (n := 1) rfl (by omega) (by simp) hE hus2 (cellsF_len k) hown' hgrow hfr
      case measure => simp [intOf]; omega
    · obtain rfl : k = nc := by omega
      go_wp2_with fail
      refine bodyPost_ret (v := .tuple #[_, .int .i64 0]) (by simp [results, Try.results47, go_sem]; rfl) rfl ?_
      exact ⟨_, rfl, hO.mono hB2.size, hB2.on hBo⟩

set_option maxRecDepth 20000 in
set_option maxHeartbeats 2000000 in
theorem fam_around (g : Grid) (ah ac : Option Addr) (nh ch nc cc : Nat) (W : World) (h1 : Ints W ah nh ch g.holes) (h2 : Ints W ac nc cc g.cells) (hn : nh ≤ 10000000) (hm : nc ≤ 10000000000) (he : checkErr g = 0) : Calls Try.prog 47 #[.agg #[.int .i64 g.shape, .int .i64 g.w, .int .i64 g.h, .slice ah nh ch, .slice ac nc cc], .int .i64 4] W (RetRowsE W 22 (nbL g) 0) := by
  have hv := valid_of he
  have hal : Below W.heap.size W (W.alloc (.cells #[.int .i64 g.shape, .int .i64 g.w, .int .i64 g.h, .slice ah nh ch, .slice ac nc cc] 24)) := (Below.refl _ _).alloc (Nat.le_refl _) _
  have hc := neighbors_any g ah ac nh ch nc cc _ (h1.below hal) (h2.below hal) hn hm
  have hnb : nbOut g = nbL g := by unfold nbOut; rw [if_pos he]
  rw [he, hnb] at hc
  have HC := Lib.hid hc
  have hx := Box.new W #[.int .i64 g.shape, .int .i64 g.w, .int .i64 g.h, .slice ah nh ch, .slice ac nc cc] 24
  have hnl := h2.len
  have h256 := hv.len
  have HV := Lib.hid hv
  rw [hnl] at h256
  have HNL := Lib.hid hnl
  clear hc hv he hnb hnl
  go_enter Try.func47, Try.ntmps47
  go_wp2_with fail
  refine HC.out.mono ?_
  rintro e w1 ⟨v1, rfl, hO1, hB1⟩
  have hx1 := hx.below hB1
  have hxl := hx1.lt
  have hB2 := hal.on hB1
  obtain ⟨d0, d1, d2, d3, d4⟩ := hx1.g5
  clear hx hB1 hal
  go_wp2_with fail
  refine bodyPost_ret (v := .tuple #[_, .int .i64 0]) (by simp [results, Try.results47, go_sem]; rfl) rfl ?_
  exact ⟨_, rfl, hO1.mono (by simp), hB2⟩

set_option maxRecDepth 20000 in
set_option maxHeartbeats 2000000 in
theorem fam_all (g : Grid) (ah ac : Option Addr) (nh ch nc cc : Nat) (W : World) (h1 : Ints W ah nh ch g.holes) (h2 : Ints W ac nc cc g.cells) (hn : nh ≤ 10000000) (hm : nc ≤ 10000000000) (he : checkErr g = 0) : Calls Try.prog 47 #[.agg #[.int .i64 g.shape, .int .i64 g.w, .int .i64 g.h, .slice ah nh ch, .slice ac nc cc], .int .i64 7] W (RetRowsE W 22 [ints nc] 0) := by
  have hv := valid_of he
  have hal : Below W.heap.size W (W.alloc (.cells #[.int .i64 g.shape, .int .i64 g.w, .int .i64 g.h, .slice ah nh ch, .slice ac nc cc] 24)) := (Below.refl _ _).alloc (Nat.le_refl _) _
  have hc := neighbors_any g ah ac nh ch nc cc _ (h1.below hal) (h2.below hal) hn hm
  have hnb : nbOut g = nbL g := by unfold nbOut; rw [if_pos he]
  rw [he, hnb] at hc
  have HC := Lib.hid hc
  have hx := Box.new W #[.int .i64 g.shape, .int .i64 g.w, .int .i64 g.h, .slice ah nh ch, .slice ac nc cc] 24
  have hnl := h2.len
  have h256 := hv.len
  have HV := Lib.hid hv
  rw [hnl] at h256
  have HNL := Lib.hid hnl
  clear hc hv he hnb hnl
  go_enter Try.func47, Try.ntmps47
  go_wp2_with fail
  refine HC.out.mono ?_
  rintro e w1 ⟨v1, rfl, hO1, hB1⟩
  have hx1 := hx.below hB1
  have hxl := hx1.lt
  have hB2 := hal.on hB1
  obtain ⟨d0, d1, d2, d3, d4⟩ := hx1.g5
  clear hx hB1 hal
  obtain ⟨i3, hi3, hz30, hz31, hz32⟩ := info_parts info_int
  go_wp2_with fail
  go_loopw [15, 107] (fun v c wr => ∃ k : Nat, k ≤ nc ∧ c = .int .i64 k ∧ OwnInts wr w1.heap.size 3 v (ints k) ∧ Below w1.heap.size w1 wr) (fun _ c _ => nc - (intOf c).toNat)
  case atStart => exact ⟨0, by omega, rfl, OwnInts.nil _ _ _, Below.refl _ _⟩
  case round =>
    obtain ⟨k, hk, rfl, hO, hBo⟩ := hrel
    obtain ⟨wo, rfl⟩ : ∃ wo, wo = wr := ⟨_, rfl⟩
    have hso := hBo.size
    by_cases hlt : k < nc
    · obtain ⟨ao, co, rfl, _⟩ := hO.ints
      have hOr : wo.ownsRow w1.heap.size 3 1 _ (ints k).length ((ints k).map (Value.int .i64)) := hO
      rw [ints_len] at hOr ⊢
      have hl := hOr.lt
      go_wp2_with (at_builtin; refine wpList_append_own2 _ rfl _ _ 22 rfl w1.heap.size 3 i3 (.int .i64 0) 1 8 Try.underlying22 hi3 hz30 hz31 hz32 rfl (by decide) _ _ _ (hOr.alloc _) rfl ⟨_, 0, none⟩ 1 1 [.int .i64 (k : Int)] rfl rfl (cell_one_new _ _ _) (by simp [Value.oneCell']) (by unfold maxLen; omega) (by omega) (by first | omega | (simp; omega)) ?_; intro v' w1 hown' hgrow hfr)
      go_roundw
      case rel =>
        refine ⟨k + 1, by omega, by go_num, ?_, (hBo.alloc (by omega) _).grown hgrow (by simp; omega) (fun q e => (hl q e).1)⟩
        rw [ints_succ]
        exact OwnInts.snoc (by rw [ints_len]; exact hown')
      case measure => simp [intOf]; omega
    · obtain rfl : k = nc := by omega
      obtain ⟨a, c, rfl, hI⟩ := hO.ints
      go_wp2_with fail
      refine bodyPost_ret (v := .tuple #[_, .int .i64 0]) (by simp [results, Try.results47, go_sem]; rfl) rfl ?_
      exact ⟨_, rfl, OwnRows.one hI (by have := hB2.size; omega), (hB2.on hBo).alloc (by have := hB2.size; omega) _⟩

set_option maxRecDepth 20000 in
set_option maxHeartbeats 2000000 in
theorem fam_none (f : Int) (g : Grid) (ah ac : Option Addr) (nh ch nc cc : Nat) (W : World) (h1 : Ints W ah nh ch g.holes) (h2 : Ints W ac nc cc g.cells) (hn : nh ≤ 10000000) (hm : nc ≤ 10000000000) (he : checkErr g = 0) (hf : ¬ (0 ≤ f ∧ f ≤ 7)) : Calls Try.prog 47 #[.agg #[.int .i64 g.shape, .int .i64 g.w, .int .i64 g.h, .slice ah nh ch, .slice ac nc cc], .int .i64 f] W (RetRowsE W 22 [] 1) := by
  have t0 : (f == 0) = false := by rw [beq_eq_false_iff_ne]; omega
  have t1 : (f == 1) = false := by rw [beq_eq_false_iff_ne]; omega
  have t2 : (f == 2) = false := by rw [beq_eq_false_iff_ne]; omega
  have t3 : (f == 3) = false := by rw [beq_eq_false_iff_ne]; omega
  have t4 : (f == 4) = false := by rw [beq_eq_false_iff_ne]; omega
  have t5 : (f == 5) = false := by rw [beq_eq_false_iff_ne]; omega
  have t6 : (f == 6) = false := by rw [beq_eq_false_iff_ne]; omega
  have t7 : (f == 7) = false := by rw [beq_eq_false_iff_ne]; omega
  clear hf
  have hv := valid_of he
  have hal : Below W.heap.size W (W.alloc (.cells #[.int .i64 g.shape, .int .i64 g.w, .int .i64 g.h, .slice ah nh ch, .slice ac nc cc] 24)) := (Below.refl _ _).alloc (Nat.le_refl _) _
  have hc := neighbors_any g ah ac nh ch nc cc _ (h1.below hal) (h2.below hal) hn hm
  have hnb : nbOut g = nbL g := by unfold nbOut; rw [if_pos he]
  rw [he, hnb] at hc
  have HC := Lib.hid hc
  have hx := Box.new W #[.int .i64 g.shape, .int .i64 g.w, .int .i64 g.h, .slice ah nh ch, .slice ac nc cc] 24
  have hnl := h2.len
  have h256 := hv.len
  have HV := Lib.hid hv
  rw [hnl] at h256
  have HNL := Lib.hid hnl
  clear hc hv he hnb hnl
  go_enter Try.func47, Try.ntmps47
  go_wp2_with fail
  refine HC.out.mono ?_
  rintro e w1 ⟨v1, rfl, hO1, hB1⟩
  have hx1 := hx.below hB1
  have hxl := hx1.lt
  have hB2 := hal.on hB1
  obtain ⟨d0, d1, d2, d3, d4⟩ := hx1.g5
  clear hx hB1 hal
  go_wp2_with fail
  refine bodyPost_ret (v := .tuple #[.slice none 0 0, .int .i64 1]) (by simp [results, Try.results47, go_sem]) rfl ?_
  exact ⟨_, rfl, OwnRows.nil _ _ _, hB2⟩

set_option maxRecDepth 20000 in
set_option maxHeartbeats 2000000 in
theorem fam_pairs (g : Grid) (ah ac : Option Addr) (nh ch nc cc : Nat) (W : World) (h1 : Ints W ah nh ch g.holes) (h2 : Ints W ac nc cc g.cells) (hn : nh ≤ 10000000) (hm : nc ≤ 10000000000) (he : checkErr g = 0) : Calls Try.prog 47 #[.agg #[.int .i64 g.shape, .int .i64 g.w, .int .i64 g.h, .slice ah nh ch, .slice ac nc cc], .int .i64 6] W (RetRowsE W 22 (pairsF g nc) 0) := by
  have hv := valid_of he
  have hal : Below W.heap.size W (W.alloc (.cells #[.int .i64 g.shape, .int .i64 g.w, .int .i64 g.h, .slice ah nh ch, .slice ac nc cc] 24)) := (Below.refl _ _).alloc (Nat.le_refl _) _
  have hc := neighbors_any g ah ac nh ch nc cc _ (h1.below hal) (h2.below hal) hn hm
  have hnb : nbOut g = nbL g := by unfold nbOut; rw [if_pos he]
  rw [he, hnb] at hc
  have HC := Lib.hid hc
  have hx := Box.new W #[.int .i64 g.shape, .int .i64 g.w, .int .i64 g.h, .slice ah nh ch, .slice ac nc cc] 24
  have hnl := h2.len
  have h256 := hv.len
  have HV := Lib.hid hv
  rw [hnl] at h256
  have HNL := Lib.hid hnl
  clear hc hv he hnb hnl
  go_enter Try.func47, Try.ntmps47
  go_wp2_with fail
  refine HC.out.mono ?_
  rintro e w1 ⟨v1, rfl, hO1, hB1⟩
  have hx1 := hx.below hB1
  have hxl := hx1.lt
  have hB2 := hal.on hB1
  obtain ⟨d0, d1, d2, d3, d4⟩ := hx1.g5
  clear hx hB1 hal
  obtain ⟨i22, hi22, hz220, hz221, hz222⟩ := info_parts info_ints
  obtain ⟨a1, c1, rfl, hR⟩ := hO1.rows
  have hll : (nbL g).length = nc := by rw [nbL_len, HNL.out]
  rw [hll] at hR ⊢
  have hcp := hR.cap
  have hmx := hR.mx
  unfold maxLen at hmx
  clear hll
  go_wp2_with fail
  go_loopw [4, 80] (fun v c wr => ∃ k : Nat, k ≤ nc ∧ c = .int .i64 k ∧ OwnRows wr w1.heap.size 22 v (pairsF g k) ∧ Below w1.heap.size w1 wr) (fun _ c _ => nc - (intOf c).toNat)
  case atStart => exact ⟨0, by omega, rfl, OwnRows.nil _ _ _, Below.refl _ _⟩
  case round =>
    obtain ⟨k, hk, rfl, hO, hBo⟩ := hrel
    obtain ⟨wo, rfl⟩ : ∃ wo, wo = wr := ⟨_, rfl⟩
    have hso := hBo.size
    by_cases hlt : k < nc
    · obtain ⟨b5, o5, ha, hb5⟩ := hR.at' (by omega)
      obtain ⟨ax, nx, cx, e0, hIx⟩ := hR.row b5 o5 ha k hlt
      rw [nbL_get g (by rw [HNL.out]; exact hlt)] at hIx
      subst ha
      have e1 := (hBo.cell (p := ⟨b5, o5 + k, none⟩) hb5).trans e0
      have hxl2 := hIx.len
      have hcx := hIx.cap
      have hmx2 := hIx.mx
      unfold maxLen at hmx2
      have hpl := pairsF_len g k
      have hpk : k * g.cells.length ≤ 256 * 256 := Nat.mul_le_mul (by omega) (by rw [HNL.out]; exact h256)
      have hnx : nx ≤ 256 := by rw [← hxl2]; have := nbRow_le g k g.cells.length; rw [HNL.out] at this; rw [HNL.out]; omega
      have HXL := Lib.hid hxl2
      have HPL := Lib.hid hpl
      have HPK := Lib.hid hpk
      clear e0 hxl2 hpl hpk
      go_wp2_with fail
      go_loopw [4, 87] (fun v c wr => ∃ j : Nat, j ≤ nx ∧ c = .int .i64 j ∧ OwnRows wr w1.heap.size 22 v (pairsF g k ++ pairRow ((nbRow g k g.cells.length).take j) k) ∧ Below w1.heap.size w1 wr) (fun _ c _ => nx - (intOf c).toNat)
      case atStart => exact ⟨0, by omega, rfl, by simpa [pairRow] using hO, hBo⟩
      case round =>
        clear hO
        obtain ⟨j, hj, rfl, hO, hBi⟩ := hrel
        obtain ⟨wi, rfl⟩ : ∃ wi, wi = wr := ⟨_, rfl⟩
        have hsi := hBi.size
        by_cases hlt2 : j < nx
        · obtain ⟨b6, o6, hax, hb6⟩ := hIx.at' (by omega)
          have e2 := (hBi.cell (p := ⟨b6, o6 + j, none⟩) hb6).trans (hIx.cell b6 o6 hax j hlt2)
          subst hax
          have HT := Lib.hid (pairRow_take (nbRow g k g.cells.length) k (j := j) (by rw [HXL.out]; exact hlt2))
          obtain ⟨b, hb⟩ : ∃ b, (nbRow g k g.cells.length)[j]?.getD 0 = b := ⟨_, rfl⟩
          rw [hb] at e2 HT
          clear hb
          by_cases hbk : (k : Int) < b
          · have HT2 := HT.out
            rw [if_pos hbk] at HT2
            have HT3 := Lib.hid HT2
            have tk : decide ((k : Int) < b) = true := by simpa using hbk
            clear HT2 HT hbk
            obtain ⟨ao, co, rfl, _⟩ := hO.rows
            obtain ⟨us, hus, hE⟩ := hO
            obtain ⟨L, hL⟩ : ∃ L, (pairsF g k ++ pairRow ((nbRow g k g.cells.length).take j) k).length = L := ⟨_, rfl⟩
            have hLb : L ≤ 100000 := by
              rw [← hL, List.length_append]
              have h1 := pairRow_len ((nbRow g k g.cells.length).take j) k
              rw [List.length_take] at h1
              have h2 := HPL.out
              have h3 := HPK.out
              omega
            rw [hL] at hus hE ⊢
            have HL := Lib.hid hL
            have hl := hus.lt
            clear hL
            go_wp2_with (at_builtin; refine wpList_append_own2 _ rfl _ _ 28 rfl w1.heap.size 22 i22 (.slice none 0 0) 1 24 Try.underlying28 hi22 hz220 hz221 hz222 rfl (by decide) _ _ _ ((hus.alloc _).alloc _) rfl ⟨_, 0, none⟩ 1 1 [(.slice (some ⟨wi.heap.size, 0, none⟩) 2 2)] rfl rfl (cell_two_new _ _ _ _) (by simp [Value.oneCell']) (by unfold maxLen; omega) (by omega) (by first | omega | (simp; omega)) ?_; intro v' w1 hown' hgrow hfr)
            go_roundw
            case rel =>
              refine ⟨j + 1, by omega, by go_num, ?_, ((hBi.alloc (by omega) _).alloc (by simp; omega) _).grown hgrow (by simp; omega) (fun q e => (hl q e).1)⟩
              rw [HT3.out, ← List.append_assoc]
              exact push_new (l := [(k : Int), b]) (n := 2) rfl (by omega) (by simp) hE hus HL.out hown' hgrow hfr
            case measure => simp [intOf]; omega
          · have HT2 := HT.out
            rw [if_neg hbk] at HT2
            have HT3 := Lib.hid HT2
            have tk : decide ((k : Int) < b) = false := by simpa using hbk
            clear HT2 HT hbk
            go_wp2_with fail
            go_roundw
            case rel => exact ⟨j + 1, by omega, by go_num, by rw [HT3.out, List.append_nil]; exact hO, hBi⟩
            case measure => simp [intOf]; omega
        · obtain rfl : j = nx := by omega
          go_wp2_with fail
          go_roundw
          case rel =>
            refine ⟨k + 1, by omega, by go_num, ?_, hBi⟩
            rw [pairsF_succ]
            rw [List.take_of_length_le (by rw [HXL.out]; omega)] at hO
            exact hO
          case measure => simp [intOf]; omega
    · obtain rfl : k = nc := by omega
      go_wp2_with fail
      refine bodyPost_ret (v := .tuple #[_, .int .i64 0]) (by simp [results, Try.results47, go_sem]; rfl) rfl ?_
      exact ⟨_, rfl, hO.mono (by have := hB2.size; omega), hB2.on hBo⟩

set_option maxRecDepth 20000 in
set_option maxHeartbeats 2000000 in
theorem fam_near (g : Grid) (ah ac : Option Addr) (nh ch nc cc : Nat) (W : World) (h1 : Ints W ah nh ch g.holes) (h2 : Ints W ac nc cc g.cells) (hn : nh ≤ 10000000) (hm : nc ≤ 10000000000) (he : checkErr g = 0) : Calls Try.prog 47 #[.agg #[.int .i64 g.shape, .int .i64 g.w, .int .i64 g.h, .slice ah nh ch, .slice ac nc cc], .int .i64 5] W (RetRowsE W 22 (nearF g nc) 0) := by
  have hv := valid_of he
  have hal : Below W.heap.size W (W.alloc (.cells #[.int .i64 g.shape, .int .i64 g.w, .int .i64 g.h, .slice ah nh ch, .slice ac nc cc] 24)) := (Below.refl _ _).alloc (Nat.le_refl _) _
  have hc := neighbors_any g ah ac nh ch nc cc _ (h1.below hal) (h2.below hal) hn hm
  have hnb : nbOut g = nbL g := by unfold nbOut; rw [if_pos he]
  rw [he, hnb] at hc
  have HC := Lib.hid hc
  have hx := Box.new W #[.int .i64 g.shape, .int .i64 g.w, .int .i64 g.h, .slice ah nh ch, .slice ac nc cc] 24
  have hnl := h2.len
  have h256 := hv.len
  have HV := Lib.hid hv
  rw [hnl] at h256
  have HNL := Lib.hid hnl
  clear hc hv he hnb hnl
  go_enter Try.func47, Try.ntmps47
  go_wp2_with fail
  refine HC.out.mono ?_
  rintro e w1 ⟨v1, rfl, hO1, hB1⟩
  have hx1 := hx.below hB1
  have hxl := hx1.lt
  have hB2 := hal.on hB1
  obtain ⟨d0, d1, d2, d3, d4⟩ := hx1.g5
  clear hx hB1 hal
  obtain ⟨i3, hi3, hz30, hz31, hz32⟩ := info_parts info_int
  obtain ⟨i22, hi22, hz220, hz221, hz222⟩ := info_parts info_ints
  obtain ⟨a1, c1, rfl, hR⟩ := hO1.rows
  have hll : (nbL g).length = nc := by rw [nbL_len, HNL.out]
  rw [hll] at hR ⊢
  have hcp := hR.cap
  have hmx := hR.mx
  unfold maxLen at hmx
  clear hll
  go_wp2_with fail
  go_loopw [4, 59] (fun v c wr => ∃ k : Nat, k ≤ nc ∧ c = .int .i64 k ∧ OwnRows wr w1.heap.size 22 v (nearF g k) ∧ Below w1.heap.size w1 wr) (fun _ c _ => nc - (intOf c).toNat)
  case atStart => exact ⟨0, by omega, rfl, OwnRows.nil _ _ _, Below.refl _ _⟩
  case round =>
    obtain ⟨k, hk, rfl, hO, hBo⟩ := hrel
    obtain ⟨wo, rfl⟩ : ∃ wo, wo = wr := ⟨_, rfl⟩
    have hso := hBo.size
    by_cases hlt : k < nc
    · obtain ⟨b5, o5, ha, hb5⟩ := hR.at' (by omega)
      obtain ⟨ax, nx, cx, e0, hIx⟩ := hR.row b5 o5 ha k hlt
      rw [nbL_get g (by rw [HNL.out]; exact hlt)] at hIx
      subst ha
      have e1 := (hBo.cell (p := ⟨b5, o5 + k, none⟩) hb5).trans e0
      have hxl2 := hIx.len
      have hnx : nx ≤ 256 := by rw [← hxl2]; have := nbRow_le g k g.cells.length; rw [HNL.out] at this; rw [HNL.out]; omega
      have hIo := hIx.below hBo
      obtain ⟨ao, co, rfl, _⟩ := hO.rows
      obtain ⟨us, hus, hE⟩ := hO
      rw [nearF_len] at hus hE ⊢
      have hl := hus.lt
      have HXL := Lib.hid hxl2
      clear e0 hxl2
      go_wp2_with fail
      refine (clone_any ax nx cx _ wo hIo (by omega)).mono ?_
      rintro e w2 ⟨v2, rfl, hO2, hB3⟩
      have hs3 := hB3.size
      obtain ⟨a2, c2, rfl, _⟩ := hO2.ints
      have hOr : w2.ownsRow wo.heap.size 3 1 _ (nbRow g k g.cells.length).length ((nbRow g k g.cells.length).map (Value.int .i64)) := hO2
      rw [HXL.out] at hOr ⊢
      have hl2 := hOr.lt
      go_wp2_with (at_builtin; refine wpList_append_own2 _ rfl _ _ 22 rfl wo.heap.size 3 i3 (.int .i64 0) 1 8 Try.underlying22 hi3 hz30 hz31 hz32 rfl (by decide) _ _ _ (hOr.alloc _) rfl ⟨_, 0, none⟩ 1 1 [.int .i64 (k : Int)] rfl rfl (cell_one_new _ _ _) (by simp [Value.oneCell']) (by unfold maxLen; omega) (by omega) (by first | omega | (simp; omega)) ?_; intro v' w1 hown' hgrow hfr)
      have hO3 : OwnInts _ wo.heap.size 3 v' (nbRow g k g.cells.length ++ [(k : Int)]) := OwnInts.snoc (by rw [HXL.out]; exact hown')
      have hs5 := hgrow.size
      simp only [World.size_alloc] at hs5
      have hB4 : Below wo.heap.size wo _ := (hB3.alloc (by omega) _).grown hgrow (by simp; omega) (fun q e => (hl2 q e).1)
      have hlen : (nbRow g k g.cells.length ++ [(k : Int)]).length = nx + 1 := by rw [List.length_append, HXL.out]; rfl
      obtain ⟨a3, c3, rfl, _⟩ := hO3.ints
      rw [hlen] at hO3 ⊢
      have HLN := Lib.hid hlen
      have hl3 := hO3.lt
      clear hlen hown' hgrow hfr hO2 hOr
      refine (sort_own hO3 (by rw [HLN.out]; omega)).mono ?_
      rintro e w4 ⟨rfl, hO4, hg4⟩
      have hs4 := hg4.size
      have hB5 : Below wo.heap.size wo w4 := hB4.grown hg4 (by omega) (fun q e => (hl3 q e).1)
      have HO4 : OwnInts w4 wo.heap.size 3 _ (nearRow g k) := hO4
      have hfr4 : 0 < (nearRow g k).length → _ ≠ _ := fun h => fresh_ne HO4 hus (Nat.le_refl _) h
      have hlr : (nearRow g k).length = nx + 1 := by unfold nearRow; rw [sortI_len, HLN.out]
      obtain ⟨a4, c4, e4, hI4⟩ := HO4.ints
      rw [hlr] at e4 hI4 hfr4
      injection e4 with e5 _ e6
      subst e5 e6
      have hus4 := ownsRow_below' hus hB5
      have HFR := Lib.hid hfr4
      clear hfr4 hO4 HO4 hlr hg4 hO3
      go_wp2_with (at_builtin; refine wpList_append_own2 _ rfl _ _ 28 rfl _ 22 i22 (.slice none 0 0) 1 24 Try.underlying28 hi22 hz220 hz221 hz222 rfl (by decide) _ _ _ (hus4.alloc _) rfl ⟨_, 0, none⟩ 1 1 [(.slice a3 (nx + 1) c3)] rfl rfl (cell_one_new _ _ _) (by simp [Value.oneCell']) (by unfold maxLen; omega) (by omega) (by first | omega | (simp; omega)) ?_; intro v' w1 hown' hgrow hfr)
      go_roundw
      case rel =>
        refine ⟨k + 1, by omega, by go_num, ?_, ((hBo.on hB5).alloc (by omega) _).grown hgrow (by simp; omega) (fun q e => (hl q e).1)⟩
        rw [nearF_succ]
        exact OwnRows.push (hE.mono fun _ _ hu => (hu.below hB5).below ((Below.refl _ _).alloc (Nat.le_refl _) _)) (by rw [nearF_len]; exact hown') hgrow hfr (hI4.below ((Below.refl _ _).alloc (Nat.le_refl _) _)) HFR.out
      case measure => simp [intOf]; omega
    · obtain rfl : k = nc := by omega
      go_wp2_with fail
      refine bodyPost_ret (v := .tuple #[_, .int .i64 0]) (by simp [results, Try.results47, go_sem]; rfl) rfl ?_
      exact ⟨_, rfl, hO.mono (by have := hB2.size; omega), hB2.on hBo⟩
end Go.Proofs.Ytjiacdihfbbfjaa

/- The diagonals of a square grid; grids.Family at every number. -/
namespace Go.Proofs.Ytjiacdihfbbfjaa
open Go.RowKit

def RetLo (W : World) (ll : List (List Int)) (e : Ending) (w' : World) : Prop := ∃ v, e = .returned v ∧ OwnRows w' W.heap.size 22 v ll ∧ Below W.heap.size W w'
def onel (a : List Int) : List (List Int) := if a = [] then [] else [a]
def dstep (x y : List (List Int)) (k : Nat) : List (List Int) := if k = 0 then x else y
theorem NRows.row1 {w : World} {base b0 : Nat} {e : TypeId} {a0 : Option Addr} {n0 c0 : Nat} {l : List Int} (h : NRows w base b0 e (.slice a0 n0 c0) [l]) : ∃ b a n c, a0 = some ⟨b, 0, none⟩ ∧ b < w.heap.size ∧ w.cell? ⟨b, 0, none⟩ = some (.slice a n c) ∧ Ints w a n c l ∧ ∀ k, (Value.slice a n c).ownBlock = some k → b0 ≤ k := by
  obtain ⟨us, hu, hE, hN⟩ := h
  cases hE with
  | cons h1 h2 =>
    cases h2
    obtain ⟨a, n, c, rfl, hI, _⟩ := h1
    have hu1 : w.ownsRow base e 1 (.slice a0 n0 c0) 1 [.slice a n c] := hu
    rcases hu1.2 with ⟨_, h0⟩ | ⟨g, cap, cur, hv, _, hgb, _⟩
    · omega
    · injection hv with e1 e2 e3
      subst e1 e2
      refine ⟨g, a, n, c, rfl, (Array.getElem?_eq_some_iff.1 hgb).1, ?_, hI, hN _ (List.mem_singleton.2 rfl)⟩
      have := hu1.cellAt 0 (by simp)
      simpa using this
theorem two_eq {a b : List Int} (ha : a ≠ []) (e : a = b) : two a b = [a] := by unfold two; rw [if_neg ha, if_pos (.inr e)]; rfl
theorem two_ne {a b : List Int} (ha : a ≠ []) (hb : b ≠ []) (e : a ≠ b) : two a b = [a] ++ [b] := by unfold two; rw [if_neg ha, if_neg (fun h => h.elim hb e)]
theorem two_nil {b : List Int} (hb : b ≠ []) : two [] b = [b] := by unfold two; rw [if_pos rfl, if_neg (fun h => h.elim hb (fun e => hb e.symm))]; rfl

set_option maxRecDepth 20000 in
set_option maxHeartbeats 4000000 in
theorem diag_sq (g : Grid) (ah ac : Option Addr) (nh ch nc cc : Nat) (W : World) (h2 : Ints W ac nc cc g.cells) (hv : Valid g) (hs : g.shape = 1) : Calls Try.prog 81 #[.agg #[.int .i64 g.shape, .int .i64 g.w, .int .i64 g.h, .slice ah nh ch, .slice ac nc cc]] W (RetLo W (diagL g)) := by
  have hal : Below W.heap.size W (W.alloc (.cells #[.int .i64 g.shape, .int .i64 g.w, .int .i64 g.h, .slice ah nh ch, .slice ac nc cc] 24)) := (Below.refl _ _).alloc (Nat.le_refl _) _
  have hx := Box.new W #[.int .i64 g.shape, .int .i64 g.w, .int .i64 g.h, .slice ah nh ch, .slice ac nc cc] 24
  have ts : (g.shape == 2) = false := by rw [hs]; rfl
  have hd := hv.dims
  have h256 := hv.len
  have hnl := h2.len
  rw [hnl] at h256
  obtain ⟨d0, d1, d2, d3, d4⟩ := hx.g5
  have hxl := hx.lt
  by_cases hw : g.w = g.h
  · have tw : (g.w != g.h) = false := by rw [hw]; simp
    have hD : diagL g = two (grpL (mainF g) nc 0) (grpL (antiF g) nc 0) := by unfold diagL; rw [if_pos hw, hnl]
    have L1 := fun W h2 => lines_any g ah ac nh ch nc cc 107 #[] _ W h2 hv (enters_of Try.func107 (by kernel_rfl) rfl) (by_main W) (fun c n _ h => by have := main_one c n h; omega)
    have L2 := fun W h2 b cs hb h1 => lines_any g ah ac nh ch nc cc 108 #[.pointer (some ⟨b, 0, none⟩)] _ W h2 hv (enters_of Try.func108 (by kernel_rfl) rfl) (by_anti b cs g.w W hb h1 ⟨by have := hv.dims.2.1; omega, by have := hv.dims.2.2.1; omega⟩) (fun c n _ h => by have := anti_one c n h; omega)
    change ∀ (W : World) (h2 : Ints W ac nc cc g.cells), Calls _ _ _ _ (fun e w' => ∃ v, e = .returned v ∧ NRows w' W.heap.size W.heap.size 22 v (linesL (mainF g) nc) ∧ Below W.heap.size W w') at L1
    change ∀ (W : World) (h2 : Ints W ac nc cc g.cells) (b : Nat) (cs : Array Value) (hb : Box W b cs 24) (h1 : cs[1]? = some (.int .i64 g.w)), Calls _ _ _ _ (fun e w' => ∃ v, e = .returned v ∧ NRows w' W.heap.size W.heap.size 22 v (linesL (antiF g) nc) ∧ Below W.heap.size W w') at L2
    simp only [lines_one main_one] at L1
    simp only [lines_one anti_one] at L2
    obtain ⟨a, ha⟩ : ∃ a, grpL (mainF g) nc 0 = a := ⟨_, rfl⟩
    obtain ⟨b, hb⟩ : ∃ b, grpL (antiF g) nc 0 = b := ⟨_, rfl⟩
    have hal1 : a.length ≤ 256 := by rw [← ha]; have := grpL_len (mainF g) nc 0; omega
    have hbl1 : b.length ≤ 256 := by rw [← hb]; have := grpL_len (antiF g) nc 0; omega
    rw [ha, hb] at hD
    rw [ha] at L1
    rw [hb] at L2
    rw [hD]
    have HL1 := Lib.hid L1
    have HL2 := Lib.hid L2
    clear L1 L2 ha hb hD hs hv hd hnl hw
    obtain ⟨i22, hi22, hz220, hz221, hz222⟩ := info_parts info_ints
    by_cases hbn : b = []
    · subst hbn
      have h2n : two a [] = (if a = [] then [] else [a]) := by unfold two; simp
      rw [h2n]
      obtain ⟨la, hla⟩ : ∃ la, (if a = [] then [] else [a]) = la := ⟨_, rfl⟩
      rw [hla] at HL1 ⊢
      clear h2n hla
      go_enter Try.func81, Try.ntmps81
      go_wp2_with fail
      refine (HL1.out _ (h2.below hal)).mono ?_
      rintro e w1 ⟨v1, rfl, hN1, hB1⟩
      obtain ⟨d0, d1, d2, d3, d4⟩ := (hx.below hB1).g5
      have hx1 := hx.below hB1
      have hxl1 := hx1.lt
      go_wp2_with fail
      refine (HL2.out _ ((h2.below hal).below hB1) _ _ hx1 rfl).mono ?_
      rintro e w2 ⟨v2, rfl, hN2, hB2⟩
      simp only [if_true] at hN2
      obtain ⟨a2, c2, e2, _⟩ := hN2.own.rows
      simp only [List.length_nil] at e2
      subst e2
      go_wp2_with fail
      go_loopw [3, 22] (fun v c wr => v = v1 ∧ c = .int .i64 0 ∧ wr = w2) (fun _ _ _ => 0)
      case atStart => exact ⟨rfl, rfl, rfl⟩
      case round =>
        obtain ⟨rfl, rfl, rfl⟩ := hrel
        go_wp2_with fail
        go_ret
        exact ⟨_, rfl, (hN1.own.below hB2).mono (by simp), (hal.on hB1).on hB2⟩
    · have HBN := Lib.hid hbn
      rw [if_neg hbn] at HL2
      clear hbn
      by_cases han : a = []
      · subst han
        have h2n : two [] b = [b] := two_nil HBN.out
        rw [h2n]
        rw [if_pos rfl] at HL1
        clear h2n
        go_enter Try.func81, Try.ntmps81
        go_wp2_with fail
        refine (HL1.out _ (h2.below hal)).mono ?_
        rintro e w1 ⟨v1, rfl, hN1, hB1⟩
        obtain ⟨d0, d1, d2, d3, d4⟩ := (hx.below hB1).g5
        have hx1 := hx.below hB1
        have hxl1 := hx1.lt
        obtain ⟨us, hus, hE⟩ := hN1.own
        obtain ⟨a1, c1, e1, _⟩ := hN1.own.rows
        simp only [List.length_nil] at e1 hus
        subst e1
        go_wp2_with fail
        refine (HL2.out _ ((h2.below hal).below hB1) _ _ hx1 rfl).mono ?_
        rintro e w2 ⟨v2, rfl, hN2, hB2⟩
        obtain ⟨a2, c2, e2, _⟩ := hN2.own.rows
        simp only [List.length_singleton] at e2
        subst e2
        obtain ⟨qb, ab, nb, cb, rfl, hqb, hcb, hIb, hNb⟩ := hN2.row1
        have hB3 := (hal.on hB1).on hB2
        have hus2 := ownsRow_below' hus hB2
        have hB1s : W.heap.size < w1.heap.size := hxl1
        have hs2 := hB2.size
        go_wp2_with fail
        go_loopw [3, 22] (fun v c wr => ∃ k : Nat, k ≤ 1 ∧ c = .int .i64 k ∧ Hid (k = 0 → v = .slice a1 0 c1 ∧ wr = w2) ∧ Hid (k = 1 → OwnRows wr W.heap.size 22 v [b] ∧ Below W.heap.size W wr)) (fun _ c _ => 1 - (intOf c).toNat)
        case atStart => exact ⟨0, by omega, rfl, Lib.hid (fun _ => ⟨rfl, rfl⟩), Lib.hid (fun h => by omega)⟩
        case round =>
          obtain ⟨k, hk, rfl, H0, H1⟩ := hrel
          by_cases hlt : k < 1
          · obtain rfl : k = 0 := by omega
            obtain ⟨rfl, rfl⟩ := H0.out rfl
            clear H0 H1
            go_wp2_with (at_builtin; refine wpList_append_own2 _ rfl _ _ 28 rfl _ 22 i22 (.slice none 0 0) 1 24 Try.underlying28 hi22 hz220 hz221 hz222 rfl (by decide) _ _ _ (hus2.alloc _) rfl ⟨_, 0, none⟩ 1 1 [(.slice ab nb cb)] rfl rfl (cell_one_new _ _ _) (by simp [Value.oneCell']) (by unfold maxLen; omega) (by omega) (by first | omega | (simp; omega)) ?_; intro v' w1 hown' hgrow hfr)
            go_roundw
            case rel =>
              refine ⟨1, by omega, by go_num, Lib.hid (fun h => by omega), Lib.hid (fun _ => ⟨?_, (hB3.alloc (by have := hB3.size; omega) _).grown hgrow (by have := hB3.size; simp; omega) (fun q e => by have := (hus2.lt q e).1; simp at this; omega)⟩)⟩
              exact (OwnRows.push (ll := []) (hE.mono fun _ _ hu => (hu.below hB2).below ((Below.refl _ _).alloc (Nat.le_refl _) _)) hown' hgrow hfr (hIb.below ((Below.refl _ _).alloc (Nat.le_refl _) _)) (fun _ e => by
                have h3 := hus.lt
                cases hk : (Value.slice ab nb cb).ownBlock with
                | none => rw [hk] at e; have := hIb.at' (by omega); obtain ⟨b9, o9, rfl, _⟩ := this; simp [Value.ownBlock] at hk
                | some z => have := hNb z hk; rw [hk] at e; have := (h3 z e.symm).2; omega)).mono (by simp)
            case measure => simp [intOf]
          · obtain rfl : k = 1 := by omega
            obtain ⟨hO, hBB⟩ := H1.out rfl
            clear H0 H1
            go_wp2_with fail
            go_ret
            exact ⟨_, rfl, hO, hBB⟩
      · have HAN := Lib.hid han
        rw [if_neg han] at HL1
        clear han
        go_enter Try.func81, Try.ntmps81
        go_wp2_with fail
        refine (HL1.out _ (h2.below hal)).mono ?_
        rintro e w1 ⟨v1, rfl, hN1, hB1⟩
        obtain ⟨d0, d1, d2, d3, d4⟩ := (hx.below hB1).g5
        have hx1 := hx.below hB1
        have hxl1 := hx1.lt
        obtain ⟨us, hus, hE⟩ := hN1.own
        obtain ⟨a1, c1, e1, _⟩ := hN1.own.rows
        simp only [List.length_singleton] at e1 hus
        subst e1
        obtain ⟨qa, aa, na, ca, rfl, hqa, hca, hIa, hNa⟩ := hN1.row1
        go_wp2_with fail
        refine (HL2.out _ ((h2.below hal).below hB1) _ _ hx1 rfl).mono ?_
        rintro e w2 ⟨v2, rfl, hN2, hB2⟩
        obtain ⟨a2, c2, e2, _⟩ := hN2.own.rows
        simp only [List.length_singleton] at e2
        subst e2
        obtain ⟨qb, ab, nb, cb, rfl, hqb, hcb, hIb, hNb⟩ := hN2.row1
        have hB3 := (hal.on hB1).on hB2
        have hus2 := ownsRow_below' hus hB2
        have hB1s : W.heap.size < w1.heap.size := hxl1
        have hs2 := hB2.size
        have hca2 := (hB2.cell (p := ⟨qa, 0, none⟩) hqa).trans hca
        have hIa2 := hIa.below hB2
        have hEq := equalS_any aa ab na ca nb cb a b w2 hIa2 hIb (by rw [← hIa2.len]; omega) (by rw [← hIb.len]; omega)
        have HBL : Hid (0 < nb → (Value.slice ab nb cb).ownBlock ≠ (Value.slice (some ⟨qa, 0, none⟩) 1 c1).ownBlock) := Lib.hid (fun hpos e => by
          obtain ⟨b9, o9, rfl, _⟩ := hIb.at' hpos
          have := hNb b9 rfl
          simp [Value.ownBlock] at e
          omega)
        by_cases hab : a = b
        · have heq : eqL a b = true := by unfold eqL; simpa using hab
          rw [heq] at hEq
          have HEQ := Lib.hid hEq
          have HTW := Lib.hid (two_eq HAN.out hab)
          clear hEq heq hab hca
          go_wp2_with fail
          go_loopw [3, 22] (fun v c wr => ∃ k : Nat, k ≤ 1 ∧ c = .int .i64 k ∧ v = .slice (some ⟨qa, 0, none⟩) 1 c1 ∧ Hid (k = 0 → wr = w2) ∧ OwnRows wr W.heap.size 22 v [a] ∧ Below W.heap.size W wr) (fun _ c _ => 1 - (intOf c).toNat)
          case atStart => exact ⟨0, by omega, rfl, rfl, Lib.hid (fun _ => rfl), (hN1.own.below hB2).mono (by simp), hB3⟩
          case round =>
            obtain ⟨k, hk, rfl, rfl, H0, hO, hBB⟩ := hrel
            by_cases hlt : k < 1
            · obtain rfl : k = 0 := by omega
              obtain rfl := H0.out rfl
              clear H0
              go_wp2_with fail
              refine HEQ.out.mono ?_
              rintro e w3 ⟨rfl, q, rfl⟩
              go_wp2_with fail
              go_roundw
              case rel => exact ⟨1, by omega, by go_num, rfl, Lib.hid (fun h => by omega), hO.drewN q, below_drewN hBB q⟩
              case measure => simp [intOf]
            · obtain rfl : k = 1 := by omega
              clear H0
              go_wp2_with fail
              go_ret
              exact ⟨_, rfl, by rw [HTW.out]; exact hO, hBB⟩
        · have heq : eqL a b = false := by unfold eqL; simpa using hab
          rw [heq] at hEq
          have HEQ := Lib.hid hEq
          have HTW := Lib.hid (two_ne HAN.out HBN.out hab)
          clear hEq heq hab hca
          go_wp2_with fail
          go_loopw [3, 22] (fun v c wr => ∃ k : Nat, k ≤ 1 ∧ c = .int .i64 k ∧ Hid (k = 0 → v = .slice (some ⟨qa, 0, none⟩) 1 c1 ∧ wr = w2) ∧ Hid (k = 1 → OwnRows wr W.heap.size 22 v ([a] ++ [b]) ∧ Below W.heap.size W wr)) (fun _ c _ => 1 - (intOf c).toNat)
          case atStart => exact ⟨0, by omega, rfl, Lib.hid (fun _ => ⟨rfl, rfl⟩), Lib.hid (fun h => by omega)⟩
          case round =>
            obtain ⟨k, hk, rfl, H0, H1⟩ := hrel
            by_cases hlt : k < 1
            · obtain rfl : k = 0 := by omega
              obtain ⟨rfl, rfl⟩ := H0.out rfl
              clear H0 H1
              go_wp2_with fail
              refine HEQ.out.mono ?_
              rintro e w3 ⟨rfl, q, rfl⟩
              have hus3 := ownsRow_drewN hus2 q
              go_wp2_with (at_builtin; refine wpList_append_own2 _ rfl _ _ 28 rfl _ 22 i22 (.slice none 0 0) 1 24 Try.underlying28 hi22 hz220 hz221 hz222 rfl (by decide) _ _ _ (hus3.alloc _) rfl ⟨_, 0, none⟩ 1 1 [(.slice ab nb cb)] rfl rfl (cell_one_new _ _ _) (by simp [Value.oneCell']) (by unfold maxLen; omega) (by omega) (by first | omega | (simp; omega)) ?_; intro v' w1 hown' hgrow hfr)
              go_roundw
              case rel =>
                refine ⟨1, by omega, by go_num, Lib.hid (fun h => by omega), Lib.hid (fun _ => ⟨?_, ((below_drewN hB3 q).alloc (by have := hB3.size; simp; omega) _).grown hgrow (by have := hB3.size; simp; omega) (fun q e => by have := (hus2.lt q e).1; simp at this; omega)⟩)⟩
                exact (OwnRows.push (ll := [a]) (hE.mono fun _ _ hu => ((hu.below hB2).below (Below.drewN0 _ q)).below ((Below.refl _ _).alloc (Nat.le_refl _) _)) hown' hgrow hfr ((hIb.drewN q).below ((Below.refl _ _).alloc (Nat.le_refl _) _)) HBL.out).mono (by simp)
              case measure => simp [intOf]
            · obtain rfl : k = 1 := by omega
              obtain ⟨hO, hBB⟩ := H1.out rfl
              clear H0 H1
              go_wp2_with fail
              go_ret
              exact ⟨_, rfl, by rw [HTW.out]; exact hO, hBB⟩
  · have tw : (g.w != g.h) = true := by simpa using hw
    have hD : diagL g = [] := by unfold diagL; rw [if_neg hw]
    rw [hD]
    clear hD hw hs hv hd
    go_enter Try.func81, Try.ntmps81
    go_wp2_with fail
    go_ret
    exact ⟨_, rfl, OwnRows.nil _ _ _, hal⟩

set_option maxRecDepth 20000 in
set_option maxHeartbeats 2000000 in
theorem fam_sq (g : Grid) (ah ac : Option Addr) (nh ch nc cc : Nat) (W : World) (h1 : Ints W ah nh ch g.holes) (h2 : Ints W ac nc cc g.cells) (hn : nh ≤ 10000000) (hm : nc ≤ 10000000000) (he : checkErr g = 0) (hs : g.shape = 1) : Calls Try.prog 47 #[.agg #[.int .i64 g.shape, .int .i64 g.w, .int .i64 g.h, .slice ah nh ch, .slice ac nc cc], .int .i64 3] W (RetRowsE W 22 (diagL g) 0) := by
  have HS := Lib.hid hs
  clear hs
  have hv := valid_of he
  have hal : Below W.heap.size W (W.alloc (.cells #[.int .i64 g.shape, .int .i64 g.w, .int .i64 g.h, .slice ah nh ch, .slice ac nc cc] 24)) := (Below.refl _ _).alloc (Nat.le_refl _) _
  have hc := neighbors_any g ah ac nh ch nc cc _ (h1.below hal) (h2.below hal) hn hm
  have hnb : nbOut g = nbL g := by unfold nbOut; rw [if_pos he]
  rw [he, hnb] at hc
  have HC := Lib.hid hc
  have hx := Box.new W #[.int .i64 g.shape, .int .i64 g.w, .int .i64 g.h, .slice ah nh ch, .slice ac nc cc] 24
  have hnl := h2.len
  have h256 := hv.len
  have HV := Lib.hid hv
  rw [hnl] at h256
  have HNL := Lib.hid hnl
  clear hc hv he hnb hnl
  go_enter Try.func47, Try.ntmps47
  go_wp2_with fail
  refine HC.out.mono ?_
  rintro e w1 ⟨v1, rfl, hO1, hB1⟩
  have hx1 := hx.below hB1
  have hxl := hx1.lt
  have hB2 := hal.on hB1
  obtain ⟨d0, d1, d2, d3, d4⟩ := hx1.g5
  clear hx hB1 hal
  have HCL := Lib.hid (diag_sq g ah ac nh ch nc cc w1 (h2.below hB2) HV.out HS.out)
  go_wp2_with fail
  refine HCL.out.mono ?_
  rintro e w2 ⟨v2, rfl, hO2, hB3⟩
  go_wp2_with fail
  refine bodyPost_ret (v := .tuple #[v2, .int .i64 0]) (by simp [results, Try.results47, go_sem]) rfl ?_
  exact ⟨_, rfl, hO2.mono hB2.size, hB2.on hB3⟩

set_option maxRecDepth 20000 in
set_option maxHeartbeats 2000000 in
theorem fam_bad (f : Int) (g : Grid) (ah ac : Option Addr) (nh ch nc cc : Nat) (W : World) (h1 : Ints W ah nh ch g.holes) (h2 : Ints W ac nc cc g.cells) (hn : nh ≤ 10000000) (hm : nc ≤ 10000000000) (he : checkErr g = 130) : Calls Try.prog 47 #[.agg #[.int .i64 g.shape, .int .i64 g.w, .int .i64 g.h, .slice ah nh ch, .slice ac nc cc], .int .i64 f] W (RetRowsE W 22 [] 130) := by
  have hal : Below W.heap.size W (W.alloc (.cells #[.int .i64 g.shape, .int .i64 g.w, .int .i64 g.h, .slice ah nh ch, .slice ac nc cc] 24)) := (Below.refl _ _).alloc (Nat.le_refl _) _
  have hc := neighbors_any g ah ac nh ch nc cc _ (h1.below hal) (h2.below hal) hn hm
  rw [he] at hc
  have HC := Lib.hid hc
  clear hc he
  go_enter Try.func47, Try.ntmps47
  go_wp2_with fail
  refine HC.out.mono ?_
  rintro e w1 ⟨v1, rfl, hO1, hB1⟩
  go_wp2_with fail
  refine bodyPost_ret (v := .tuple #[.slice none 0 0, .int .i64 130]) (by simp [results, Try.results47, go_sem]) rfl ?_
  exact ⟨_, rfl, OwnRows.nil _ _ _, hal.on hB1⟩

theorem of_rowsN {W : World} {ll : List (List Int)} {args : Array Value} (h : Calls Try.prog 47 args W (RetRowsN W ll)) : Calls Try.prog 47 args W (RetRowsE W 22 ll 0) :=
  h.mono fun _ _ ⟨v, h1, h2, h3⟩ => ⟨v, h1, h2.own, h3⟩
theorem fam_any (f : Int) (g : Grid) (ah ac : Option Addr) (nh ch nc cc : Nat) (W : World) (h1 : Ints W ah nh ch g.holes) (h2 : Ints W ac nc cc g.cells) (hn : nh ≤ 10000000) (hm : nc ≤ 10000000000) :
    Calls Try.prog 47 #[.agg #[.int .i64 g.shape, .int .i64 g.w, .int .i64 g.h, .slice ah nh ch, .slice ac nc cc], .int .i64 f] W (RetRowsE W 22 (famOut g f) (famErr g f)) := by
  unfold famOut famErr
  have hnl := h2.len
  rcases checkErr_cases g with ⟨he, hv⟩ | ⟨he, _⟩
  · rw [if_pos he, if_pos he]
    by_cases hf : 0 ≤ f ∧ f ≤ 7
    · rw [if_pos hf]
      have h8 : f = 0 ∨ f = 1 ∨ f = 2 ∨ f = 3 ∨ f = 4 ∨ f = 5 ∨ f = 6 ∨ f = 7 := by omega
      rcases h8 with rfl | rfl | rfl | rfl | rfl | rfl | rfl | rfl
      · have := fam_cells g ah ac nh ch nc cc W h1 h2 hn hm he
        rw [← hnl] at this
        simpa [famL, hnl] using this
      · have := of_rowsN (fam_row g ah ac nh ch nc cc W h1 h2 hn hm he (by omega))
        simpa [famL, hnl] using this
      · have := of_rowsN (fam_col g ah ac nh ch nc cc W h1 h2 hn hm he (by omega))
        simpa [famL, hnl] using this
      · by_cases hs : g.shape = 2
        · have := of_rowsN (fam_diag g ah ac nh ch nc cc W h1 h2 hn hm he (fun _ => hs))
          simpa [famL, hnl, hs] using this
        · have := fam_sq g ah ac nh ch nc cc W h1 h2 hn hm he (hv.dims.1.resolve_right hs)
          simpa [famL, hnl, hs] using this
      · have := fam_around g ah ac nh ch nc cc W h1 h2 hn hm he
        simpa [famL, hnl] using this
      · have := fam_near g ah ac nh ch nc cc W h1 h2 hn hm he
        simpa [famL, hnl] using this
      · have := fam_pairs g ah ac nh ch nc cc W h1 h2 hn hm he
        simpa [famL, hnl] using this
      · have := fam_all g ah ac nh ch nc cc W h1 h2 hn hm he
        simpa [famL, hnl] using this
    · rw [if_neg hf]
      have e : famL g f = [] := by
        unfold famL
        rw [if_neg (by omega), if_neg (by omega), if_neg (by omega), if_neg (by omega), if_neg (by omega), if_neg (by omega), if_neg (by omega), if_neg (by omega)]
      rw [e]
      exact fam_none f g ah ac nh ch nc cc W h1 h2 hn hm he hf
  · rw [if_neg (by omega), if_neg (by omega)]
    exact fam_bad f g ah ac nh ch nc cc W h1 h2 hn hm he
end Go.Proofs.Ytjiacdihfbbfjaa

