/- What RulingsOrder says of the order of faults, in plain words. -/
import Derived.Test.YtehoidohallfcaaGreatDoorPlM
import Derived.Test.YtehoidohallfcaaGreatDoorRuX
import Derived.Deep.MidRow
import Derived.Laws.CopyRow
import Derived.Test.YtehoidohallfcaaGreatDoorRfX
import Derived.WalkKit
import Derived.WalkSpells
import Derived.WalkLawsBesides
import Derived.Deep.LoopGhost
import Derived.Deep.QuietTactic
import Derived.BigQuiet
import Derived.StillTailTactics
import Derived.Lib.Hide
import Derived.Outline
import Derived.Lib.QuietBelow
namespace Go.Proofs.YtehoidohallfcaaGreatDoor

section
variable {G : Type} {s : Sh} {l : List Rs} {fs gs : List (Ft G)} {d : Int}
theorem ruE_parts (h : ruE s l fs d = 0) : rkE s l = 0 ∧ fs.length ≤ 16 ∧ fs.all (okFt s) = true ∧ okDay d = true := by
  unfold ruE at h
  split at h
  · rename_i h1; exact absurd h h1
  · rename_i h1
    split at h
    · cases h
    · rename_i h2
      split at h
      · rename_i h3
        split at h
        · rename_i h4; exact ⟨Classical.not_not.1 h1, by omega, h3, h4⟩
        · cases h
      · cases h
/-- Faults that are among others, with all of these that count: the same results, the same ranking. -/
theorem ord_same (h : ruE s l fs d = 0) (hl : gs.length ≤ 16) (hm : ∀ f, f ∈ gs → f ∈ fs) (hb : ∀ f, f ∈ fs → begB (-1) d f = true → f ∈ gs) :
    ruE s l gs d = 0 ∧ ruR s l gs d = ruR s l fs d ∧ agE s l gs d = agE s l fs d ∧ agR s l gs d = agR s l fs d := by
  obtain ⟨h1, h2, h3, h4⟩ := ruE_parts h
  have hg : gs.all (okFt s) = true := by
    rw [List.all_eq_true] at h3 ⊢
    exact fun f hf => h3 f (hm f hf)
  have he : ruE s l gs d = 0 := by
    unfold ruE
    rw [if_neg (fun x => x h1), if_neg (by omega), if_pos hg, if_pos h4]
  have hr : resL gs d l = resL fs d l := resL_same (fun f hf => ⟨hm f, fun hx => hb f hx hf⟩) l
  refine ⟨he, ?_, ?_, ?_⟩
  · unfold ruR; rw [if_neg (fun x => x he), if_neg (fun x => x h), hr]
  · unfold agE; rw [if_neg (fun x => x he), if_neg (fun x => x h), hr]
  · unfold agR; rw [if_neg (fun x => x he), if_neg (fun x => x h), hr]
/-- What the law keeps of the faults. -/
def lessB (d : Int) (f : Ft G) : Bool := decide (f.kd ≠ 3) && decide (f.dy ≤ d)
theorem less_of_beg {f : Ft G} (h : begB (-1) d f = true) : lessB d f = true := by
  unfold begB at h; unfold lessB
  simp only [Bool.and_eq_true, decide_eq_true_eq] at h ⊢
  exact ⟨h.1.1, h.2⟩
/-- Two lists with the same members, as many. -/
structure Alike (fs ms : List (Ft G)) : Prop where
  len : ms.length = fs.length
  mem : ∀ f, f ∈ ms ↔ f ∈ fs
theorem Alike.refl (fs : List (Ft G)) : Alike fs fs := ⟨rfl, fun _ => Iff.rfl⟩
def swapL (ms : List (Ft G)) (k m : Nat) (x y : Ft G) : List (Ft G) := (ms.set k y).set m x
theorem Alike.swap {ms : List (Ft G)} (h : Alike fs ms) {k m : Nat} {x y : Ft G} (hx : ms[k]? = some x) (hy : ms[m]? = some y) : Alike fs (swapL ms k m x y) := by
  obtain ⟨hk, ex⟩ := List.getElem?_eq_some_iff.1 hx
  obtain ⟨hm, ey⟩ := List.getElem?_eq_some_iff.1 hy
  refine ⟨by unfold swapL; rw [List.length_set, List.length_set, h.len], fun f => ?_⟩
  rw [← h.mem f]
  unfold swapL
  constructor
  · intro hf
    rcases List.mem_or_eq_of_mem_set hf with hf | hf
    · rcases List.mem_or_eq_of_mem_set hf with hf | hf
      · exact hf
      · rw [hf]; exact List.mem_of_getElem? hy
    · rw [hf]; exact List.mem_of_getElem? hx
  · intro hf
    obtain ⟨j, hj, ej⟩ := List.mem_iff_getElem.1 hf
    rw [List.mem_iff_getElem?]
    by_cases hjk : j = k
    · subst hjk
      refine ⟨m, ?_⟩
      rw [List.getElem?_set_self (by simpa using hm)]
      rw [← ej, ex]
    · by_cases hjm : j = m
      · subst hjm
        refine ⟨k, ?_⟩
        rw [List.getElem?_set_ne (fun h => hjk h), List.getElem?_set_self hk]
        rw [← ej, ey]
      · refine ⟨j, ?_⟩
        rw [List.getElem?_set_ne (fun h => hjm h.symm), List.getElem?_set_ne (fun h => hjk h.symm), List.getElem?_eq_getElem hj, ej]
theorem ord_mixed (h : ruE s l fs d = 0) {ms : List (Ft G)} (ha : Alike fs ms) : ruE s l ms d = 0 ∧ ruR s l ms d = ruR s l fs d ∧ agE s l ms d = agE s l fs d ∧ agR s l ms d = agR s l fs d :=
  ord_same h (by rw [ha.len]; exact (ruE_parts h).2.1) (fun f hf => (ha.mem f).1 hf) (fun f hf _ => (ha.mem f).2 hf)
theorem ord_twice (h : ruE s l fs d = 0) {ms : List (Ft G)} (ha : Alike fs ms) {x : Ft G} (hx : ms[0]? = some x) (hl : ms.length < 16) : ruE s l (ms ++ [x]) d = 0 ∧ ruR s l (ms ++ [x]) d = ruR s l fs d ∧ agE s l (ms ++ [x]) d = agE s l fs d ∧ agR s l (ms ++ [x]) d = agR s l fs d :=
  ord_same h (by simp; omega) (fun f hf => by
    rcases List.mem_append.1 hf with hf | hf
    · exact (ha.mem f).1 hf
    · rw [List.mem_singleton.1 hf]; exact (ha.mem x).1 (List.mem_of_getElem? hx)) (fun f hf _ => List.mem_append_left _ ((ha.mem f).2 hf))
theorem ord_less (h : ruE s l fs d = 0) {ms : List (Ft G)} (ha : Alike fs ms) : ruE s l (ms.filter (lessB d)) d = 0 ∧ ruR s l (ms.filter (lessB d)) d = ruR s l fs d ∧ agE s l (ms.filter (lessB d)) d = agE s l fs d ∧ agR s l (ms.filter (lessB d)) d = agR s l fs d :=
  ord_same h (Nat.le_trans (List.length_filter_le _ _) (by rw [ha.len]; exact (ruE_parts h).2.1)) (fun f hf => (ha.mem f).1 (List.mem_filter.1 hf).1) (fun f hf hb => List.mem_filter.2 ⟨(ha.mem f).2 hf, less_of_beg hb⟩)
def lessTo (d : Int) (ms : List (Ft G)) (k : Nat) : List (Ft G) := (ms.take k).filter (lessB d)
theorem lessTo_0 (ms : List (Ft G)) : lessTo d ms 0 = [] := rfl
theorem lessTo_all (ms : List (Ft G)) {k : Nat} (hk : ms.length ≤ k) : lessTo d ms k = ms.filter (lessB d) := by unfold lessTo; rw [List.take_of_length_le hk]
theorem lessTo_step {ms : List (Ft G)} {k : Nat} {f : Ft G} (h : ms[k]? = some f) : lessTo d ms (k + 1) = if lessB d f then lessTo d ms k ++ [f] else lessTo d ms k := by
  obtain ⟨hk, he⟩ := List.getElem?_eq_some_iff.1 h
  unfold lessTo
  rw [List.take_succ_eq_append_getElem hk, he, List.filter_append]
  cases hb : lessB d f <;> simp [hb]
theorem lessTo_len (ms : List (Ft G)) (k : Nat) : (lessTo d ms k).length ≤ k := Nat.le_trans (List.length_filter_le _ _) (by rw [List.length_take]; omega)
end
end Go.Proofs.YtehoidohallfcaaGreatDoor

/- A whole struct put into a row of the call's own; the exchange of two. No program in sight. -/
namespace Go.Proofs.YtehoidohallfcaaGreatDoor
open Go.RowKit

theorem ownsRow_setCells {base : Nat} {e : TypeId} {k g n c : Nat} : ∀ (vs : List Value) (i : Nat) (xs : List Value) (w : World), w.ownsRow base e k (.slice (some ⟨g, 0, none⟩) n c) n xs → i + vs.length ≤ n * k → (w.setCells g i vs).ownsRow base e k (.slice (some ⟨g, 0, none⟩) n c) n (xs.take i ++ vs ++ xs.drop (i + vs.length))
  | [], i, xs, w, h, _ => by simpa [World.setCells] using h
  | v :: r, i, xs, w, h, hi => by
    have hl := h.1
    simp only [List.length_cons] at hi
    have h2 := ownsRow_setCells r (i + 1) (xs.set i v) (w.setCell ⟨g, i, none⟩ v) (ownsRow_set h i v (by omega)) (by omega)
    rw [list_seg_step xs i v r (by omega)] at h2
    exact h2
section
variable {α : Type} {enc : α → List Value} {k : Nat}
theorem flat_take (hk : ∀ x, (enc x).length = k) (ms : List α) {m : Nat} (hm : m ≤ ms.length) : (ms.flatMap enc).take (m * k) = (ms.take m).flatMap enc := by
  conv => lhs; rw [← List.take_append_drop m ms, List.flatMap_append]
  exact List.take_left' (by rw [flat_len hk, List.length_take, Nat.min_eq_left hm])
theorem flat_drop (hk : ∀ x, (enc x).length = k) (ms : List α) {m : Nat} (hm : m ≤ ms.length) : (ms.flatMap enc).drop (m * k) = (ms.drop m).flatMap enc := by
  conv => lhs; rw [← List.take_append_drop m ms, List.flatMap_append]
  exact List.drop_left' (by rw [flat_len hk, List.length_take, Nat.min_eq_left hm])
theorem flat_put (hk : ∀ x, (enc x).length = k) (ms : List α) {m : Nat} (hm : m < ms.length) (y : α) : (ms.set m y).flatMap enc = (ms.flatMap enc).take (m * k) ++ enc y ++ (ms.flatMap enc).drop (m * k + (enc y).length) := by
  rw [hk, ← Nat.succ_mul, flat_take hk ms (Nat.le_of_lt hm), flat_drop hk ms hm, List.set_eq_take_append_cons_drop, if_pos hm, List.flatMap_append, List.flatMap_cons, List.append_assoc]
theorem OwnSL.setAt {w : World} {base g n c : Nat} {e : TypeId} {ms : List α} (h : OwnSL enc k w base e (.slice (some ⟨g, 0, none⟩) n c) ms) (hk : ∀ x, (enc x).length = k) (hn : ms.length = n) {m : Nat} (hm : m < n) (y : α) :
    OwnSL enc k (w.setCells g (m * k) (enc y)) base e (.slice (some ⟨g, 0, none⟩) n c) (ms.set m y) := by
  unfold OwnSL at h ⊢
  rw [List.length_set, hn, flat_put hk ms (by omega) y]
  rw [hn] at h
  refine ownsRow_setCells _ _ _ _ h ?_
  rw [hk]
  have := Nat.mul_le_mul_right k (show m + 1 ≤ n from hm)
  rw [Nat.add_mul] at this; omega
theorem below_setCs {B b : Nat} {a : World} (hb : B ≤ b) : ∀ (vs : List Value) (o : Nat) (w : World), Below B a w → Below B a (w.setCells b o vs)
  | [], _, _, h => h
  | v :: r, o, _w, h => below_setCs hb r (o + 1) _ (h.setCell hb v)
/-- What a store of a whole struct asks: the cells are there, and not frozen. -/
theorem OwnSL.there {w : World} {base g n c : Nat} {e : TypeId} {ms : List α} (h : OwnSL enc k w base e (.slice (some ⟨g, 0, none⟩) n c) ms) (hk : ∀ x, (enc x).length = k) (hn : ms.length = n) {m : Nat} (hm : m < n) : w.there g (m * k) k := fun j hj => by
  obtain ⟨a, c', e', hS⟩ := h.sl hk
  injection e' with e1 e2 e3
  subst e1
  have hO : w.ownsRow base e k (.slice (some ⟨g, 0, none⟩) n c) n (ms.flatMap enc) := by unfold OwnSL at h; rwa [hn] at h
  obtain ⟨b, e4, _, _, hf⟩ := own_spot hO (by omega)
  injection e4 with e4; injection e4 with e4
  subst e4
  obtain ⟨x, hx⟩ : ∃ x, ms[m]? = some x := ⟨_, List.getElem?_eq_getElem (by omega)⟩
  obtain ⟨v, hv⟩ : ∃ v, (enc x)[j]? = some v := ⟨_, List.getElem?_eq_getElem (by rw [hk]; exact hj)⟩
  have := hS.cell g 0 rfl m x hx j v hv
  rw [Nat.zero_add] at this
  exact ⟨by rw [this]; rfl, hf _⟩
end
theorem fts_one {fs : List (Ft Value)} (hG : GrOk fs) : ∀ u ∈ fs.flatMap encFt, u.oneCell' = true := by
  intro u hu
  obtain ⟨f, hf, hu⟩ := List.mem_flatMap.1 hu
  obtain ⟨a, n, c, e⟩ := hG f hf
  unfold encFt at hu
  rw [e] at hu
  simp only [List.mem_cons, List.not_mem_nil, or_false] at hu
  rcases hu with rfl | rfl | rfl | rfl | rfl <;> simp [Value.oneCell']
theorem GrOk.of {fs ms : List (Ft Value)} (h : GrOk fs) (hm : ∀ f, f ∈ ms → f ∈ fs) : GrOk ms := fun f hf => h f (hm f hf)
/-- A row of faults of the call's own, like those of another one. -/
structure FtO (w : World) (base : Nat) (g n c : Nat) (fs ms : List (Ft Value)) : Prop where
  own : OwnSL encFt 5 w base 48 (.slice (some ⟨g, 0, none⟩) n c) ms
  alike : Alike fs ms
theorem FtO.below {w w' : World} {base g n c : Nat} {fs ms : List (Ft Value)} (h : FtO w base g n c fs ms) (hb : Below w.heap.size w w') : FtO w' base g n c fs ms := ⟨h.own.below hb, h.alike⟩
theorem FtO.swap {w : World} {base g n c k m : Nat} {fs ms : List (Ft Value)} (h : FtO w base g n c fs ms) (hn : fs.length = n) {x y : Ft Value} (hx : ms[k]? = some x) (hy : ms[m]? = some y) : FtO ((w.setCells g (k * 5) (encFt y)).setCells g (m * 5) (encFt x)) base g n c fs (swapL ms k m x y) := by
  have hl := h.alike.len
  have hk := (List.getElem?_eq_some_iff.1 hx).1
  have hm := (List.getElem?_eq_some_iff.1 hy).1
  exact ⟨(h.own.setAt encFt_len (by omega) (by omega) y).setAt encFt_len (by rw [List.length_set]; omega) (by omega) x, h.alike.swap hx hy⟩
theorem FtO.ge {w : World} {base g n c : Nat} {fs ms : List (Ft Value)} (h : FtO w base g n c fs ms) : base ≤ g ∧ g < w.heap.size := h.own.lt g rfl
theorem FtO.sl {w : World} {base g n c : Nat} {fs ms : List (Ft Value)} (h : FtO w base g n c fs ms) (hn : fs.length = n) : SL encFt 5 w (some ⟨g, 0, none⟩) n c ms := by
  have hl := h.alike.len
  obtain ⟨a, c', e, hS⟩ := h.own.sl encFt_len
  injection e with e1 e2 e3
  subst e1 e3
  rw [hl, hn] at hS
  exact hS
end Go.Proofs.YtehoidohallfcaaGreatDoor

/- Facts in memory for law54.RulingsOrder: a copy of the faults, and the order as bytes. -/
namespace Go.Proofs.YtehoidohallfcaaGreatDoor
open Go.RowKit

/-- A list of bytes. -/
def encB (x : Nat) : List Value := [.int .u8 (x : Int)]
theorem encB_len (x : Nat) : (encB x).length = 1 := rfl
theorem SL.b1 {w : World} {b o n c i : Nat} {l : List Nat} (h : SL encB 1 w (some ⟨b, o, none⟩) n c l) {x : Nat} (hx : l[i]? = some x) : w.cell? ⟨b, o + i, none⟩ = some (.int .u8 (x : Int)) := by
  have := h.cell b o rfl i x hx 0 _ rfl
  simpa using this
theorem info_ft : (Tryz.prog.info? 48).map (fun i => (i.zero, i.size, i.bytes)) = some (some (.agg #[.int .i64 0, .int .i64 0, .int .i64 0, .int .i64 0, .slice none 0 0]), 5, 56) := by kernel_rfl
theorem new5 (w : World) (a b c d e : Value) (t : TypeId) : ∀ j u, [a, b, c, d, e][j]? = some u → (w.alloc (.cells #[a, b, c, d, e] t)).cell? (Addr.add ⟨w.heap.size, 0, none⟩ j) = some u := by
  intro j u hu
  have hb := Box.new w #[a, b, c, d, e] t
  have e : (Addr.add ⟨w.heap.size, 0, none⟩ j) = ⟨w.heap.size, j, none⟩ := by
    simp only [Addr.add]
    split
    · rename_i h0; rw [h0]
    · rw [Nat.zero_add]
  rw [e, hb.cell j]; simpa using hu
theorem new5b (w : World) (o : Obj) (a b c d e : Value) (t : TypeId) : ∀ j u, [a, b, c, d, e][j]? = some u → ((w.alloc o).alloc (.cells #[a, b, c, d, e] t)).cell? (Addr.add ⟨w.heap.size + 1, 0, none⟩ j) = some u := by
  have h := new5 (w.alloc o) a b c d e t
  rw [World.size_alloc] at h
  exact h
/-- A row of faults of the call's own, like those of another one. -/
structure FtV (w : World) (base : Nat) (va : Option Addr) (n c : Nat) (fs ms : List (Ft Value)) : Prop where
  own : OwnSL encFt 5 w base 48 (.slice va n c) ms
  alike : Alike fs ms
  len : fs.length = n
theorem FtV.below {w w' : World} {base n c : Nat} {va : Option Addr} {fs ms : List (Ft Value)} (h : FtV w base va n c fs ms) (hb : Below w.heap.size w w') : FtV w' base va n c fs ms := ⟨h.own.below hb, h.alike, h.len⟩
theorem FtV.sl {w : World} {base n c : Nat} {va : Option Addr} {fs ms : List (Ft Value)} (h : FtV w base va n c fs ms) : SL encFt 5 w va n c ms := by
  have hl := h.alike.len
  obtain ⟨a, c', e, hS⟩ := h.own.sl encFt_len
  injection e with e1 e2 e3
  subst e1 e3
  rw [hl, h.len] at hS
  exact hS
theorem FtV.row {w : World} {base n c : Nat} {va : Option Addr} {fs ms : List (Ft Value)} (h : FtV w base va n c fs ms) : w.ownsRow base 48 5 (.slice va n c) n (ms.flatMap encFt) := by
  have := h.own
  unfold OwnSL at this
  rwa [h.alike.len, h.len] at this
theorem FtV.spot {w : World} {base n c : Nat} {va : Option Addr} {fs ms : List (Ft Value)} (h : FtV w base va n c fs ms) (h0 : 0 < n) : ∃ g, va = some ⟨g, 0, none⟩ ∧ base ≤ g ∧ g < w.heap.size := by
  obtain ⟨b, e, h1, h2, _⟩ := own_spot h.row h0
  exact ⟨b, e, h1, h2⟩
theorem FtV.swap {w : World} {base g n c k m : Nat} {fs ms : List (Ft Value)} (h : FtV w base (some ⟨g, 0, none⟩) n c fs ms) {x y : Ft Value} (hx : ms[k]? = some x) (hy : ms[m]? = some y) : FtV ((w.setCells g (k * 5) (encFt y)).setCells g (m * 5) (encFt x)) base (some ⟨g, 0, none⟩) n c fs (swapL ms k m x y) := by
  have hl := h.alike.len
  have hn := h.len
  have hk := (List.getElem?_eq_some_iff.1 hx).1
  have hm := (List.getElem?_eq_some_iff.1 hy).1
  exact ⟨(h.own.setAt encFt_len (by omega) (by omega) y).setAt encFt_len (by rw [List.length_set]; omega) (by omega) x, h.alike.swap hx hy, hn⟩
theorem FtV.gr {w : World} {base n c : Nat} {va : Option Addr} {fs ms : List (Ft Value)} (h : FtV w base va n c fs ms) (hG : GrOk fs) : GrOk ms := hG.of fun f hf => (h.alike.mem f).1 hf
theorem mixed_facts {w3 w4 : World} {v' : Value} {fs : List (Ft Value)} {fn : Nat} (hown' : w4.ownsRow w3.heap.size 48 5 v' (0 + fn) ([] ++ fs.flatMap encFt)) (hgrow : (w3.alloc (.cells #[] 48)).grownBy w4 (Value.slice (some ⟨w3.heap.size, 0, none⟩) 0 0).ownBlock) (hn : fs.length = fn) :
    ∃ va vc, v' = .slice va fn vc ∧ FtV w4 w3.heap.size va fn vc fs fs ∧ Below w3.heap.size w3 w4 := by
  rw [Nat.zero_add, List.nil_append] at hown'
  obtain ⟨va, vc, rfl, _, _⟩ := own_slice hown'
  refine ⟨va, vc, rfl, ⟨?_, Alike.refl _, hn⟩, ((Below.refl _ _).alloc (Nat.le_refl _) _).grown hgrow (by simp) (fun k e => by simp [Value.ownBlock] at e; omega)⟩
  unfold OwnSL
  rw [hn]; exact hown'
theorem twice_facts {w : World} {base : Nat} {v' : Value} {ms : List (Ft Value)} {fn : Nat} {x : Ft Value} {L : List Value} (h : w.ownsRow base 48 5 v' (fn + 1) (ms.flatMap encFt ++ L)) (hn : ms.length = fn) (hx : encFt x = L) :
    ∃ va vc, v' = .slice va (fn + 1) vc ∧ SL encFt 5 w va (fn + 1) vc (ms ++ [x]) := by
  subst hx hn
  have hO : OwnSL encFt 5 w base 48 v' (ms ++ [x]) := OwnSL.snoc h
  obtain ⟨va, vc, e, hS⟩ := hO.sl encFt_len
  rw [List.length_append, List.length_singleton] at e hS
  exact ⟨va, vc, e, hS⟩
theorem rkSame_self (r : Rk) : rkSame r r = true := by unfold rkSame; simp
end Go.Proofs.YtehoidohallfcaaGreatDoor

