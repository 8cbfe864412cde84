/- Rows of spans and of changes while they are made. No program in sight. -/
import Derived.Test.YtfhekhjojdhmhaaFKeys
namespace Go.Proofs.Ytfhekhjojdhmhaa
open Go.RowKit

theorem ownsRow_set {w : World} {base : Nat} {e : TypeId} {k g n c : Nat} {xs : List Value} (h : w.ownsRow base e k (.slice (some ⟨g, 0, none⟩) n c) n xs) (i : Nat) (v : Value) (_hi : i < n * k) :
    (w.setCell ⟨g, i, none⟩ v).ownsRow base e k (.slice (some ⟨g, 0, none⟩) n c) n (xs.set i v) := by
  refine ⟨by rw [List.length_set]; exact h.1, ?_⟩
  rcases h.2 with ⟨h1, _⟩ | ⟨g', cap, cur, e1, hb, hg, hnc, hcm, hcs, ht⟩
  · cases h1
  · obtain ⟨rfl, rfl⟩ : g = g' ∧ c = cap := by injection e1 with a _ b; injection a with a; injection a with a; exact ⟨a, b⟩
    refine .inr ⟨g, c, cur.setIfInBounds i v, rfl, hb, (show Box w g cur e from hg).set i v, hnc, hcm, by simp [hcs], ?_⟩
    rw [← ht, Array.toList_setIfInBounds, List.take_set]
theorem OwnSL.setLast {w : World} {base : Nat} {e : TypeId} {g n c : Nat} {days : List (Int × Int)} {s : Int × Int} (h : OwnSL encP 2 w base e (.slice (some ⟨g, 0, none⟩) n c) days) (hn : days.length = n) (h0 : 0 < n) (hs : days[n - 1]? = some s) (d : Int) :
    OwnSL encP 2 (w.setCell ⟨g, (n - 1) * 2 + 1, none⟩ (.int .i64 d)) base e (.slice (some ⟨g, 0, none⟩) n c) (days.dropLast ++ [(s.1, d)]) := by
  have hd : days = days.dropLast ++ [s] := by
    have hne : days ≠ [] := by intro h; rw [h] at hn; simp at hn; omega
    have h1 := (List.dropLast_concat_getLast hne).symm
    have h2 : days.getLast hne = s := by
      have := List.getLast?_eq_getElem? (l := days)
      rw [hn, hs, List.getLast?_eq_some_getLast hne] at this
      injection this
    rw [h2] at h1; exact h1
  unfold OwnSL at h ⊢
  rw [hn] at h
  have h2 := ownsRow_set h ((n - 1) * 2 + 1) (.int .i64 d) (by omega)
  have hl : (days.dropLast ++ [(s.1, d)]).length = n := by simp [hn]; omega
  rw [hl]
  have e1 : (days.flatMap encP).set ((n - 1) * 2 + 1) (.int .i64 d) = (days.dropLast ++ [(s.1, d)]).flatMap encP := by
    have hfl : (days.dropLast.flatMap encP).length = (n - 1) * 2 := by rw [flat_len encP_len, List.length_dropLast, hn]
    rw [List.flatMap_append]
    conv => lhs; rw [hd, List.flatMap_append]
    rw [List.set_append_right _ _ (by rw [hfl]; omega), hfl]
    rw [show (n - 1) * 2 + 1 - (n - 1) * 2 = 1 by omega]
    rfl
  rw [e1] at h2
  exact h2

theorem OwnSL.frozen {α : Type} {enc : α → List Value} {k : Nat} {w : World} {base : Nat} {e : TypeId} {g n c : Nat} {l : List α} (h : OwnSL enc k w base e (.slice (some ⟨g, 0, none⟩) n c) l) (i : Nat) : w.frozen? ⟨g, i, none⟩ = false := by
  rcases h.2 with ⟨e9, _⟩ | ⟨g9, cap9, cur9, e9, _, hg9, _⟩
  · cases e9
  · injection e9 with e9 _ _
    injection e9 with e9
    injection e9 with e9
    subst e9
    exact (show Box w g cur9 _ from hg9).frozen i
theorem OwnSL.sl2 {α : Type} {enc : α → List Value} {k : Nat} {w : World} {base : Nat} {e : TypeId} {a : Option Addr} {n c : Nat} {l : List α} (h : OwnSL enc k w base e (.slice a n c) l) (hk : ∀ x, (enc x).length = k) (hl : l.length = n) : SL enc k w a n c l := by
  obtain ⟨a', c', e', hS⟩ := h.sl hk
  rw [hl] at e' hS
  injection e' with ea en ec
  subst ea; subst ec
  exact hS
/-- The changes in the slots us, none of whose spans lie in the row's own block. -/
structure DEl2 (w : World) (row : Option Nat) (us : List (Key × Value)) (ds : List Dif) : Prop where
  len : us.length = ds.length
  el : ∀ (i : Nat) (u : Key × Value) (d : Dif), us[i]? = some u → ds[i]? = some d → u.1 = d.1 ∧ ∃ a n c, u.2 = .slice a n c ∧ SL encP 2 w a n c d.2 ∧ (0 < n → (Value.slice a n c).ownBlock ≠ row)
theorem DEl2.nil (w : World) (row : Option Nat) : DEl2 w row [] [] := ⟨rfl, fun i u d h => by simp at h⟩
theorem DEl2.below {w w' : World} {row : Option Nat} {us : List (Key × Value)} {ds : List Dif} (h : DEl2 w row us ds) (hb : Below w.heap.size w w') : DEl2 w' row us ds :=
  ⟨h.len, fun i u d hu hd => let ⟨e, a, n, c, h1, h2, h3⟩ := h.el i u d hu hd; ⟨e, a, n, c, h1, h2.below hb, h3⟩⟩
theorem DEl2.del {w : World} {row : Option Nat} {us : List (Key × Value)} {ds : List Dif} (h : DEl2 w row us ds) : DEl w us ds :=
  ⟨h.len, fun i u d hu hd => let ⟨e, a, n, c, h1, h2, _⟩ := h.el i u d hu hd; ⟨e, a, n, c, h1, h2⟩⟩
theorem DEl2.push {w w' : World} {v v' : Value} {us : List (Key × Value)} {ds : List Dif} {k : Key} {a : Option Addr} {n c : Nat} {l : List (Int × Int)} (h : DEl2 w v.ownBlock us ds) (hg : w.grownBy w' v.ownBlock)
    (hfr : v'.ownBlock = v.ownBlock ∨ v'.ownBlock = some w.heap.size) (hs : SL encP 2 w a n c l) (hne : 0 < n → (Value.slice a n c).ownBlock ≠ v.ownBlock) : DEl2 w' v'.ownBlock (us ++ [(k, .slice a n c)]) (ds ++ [(k, l)]) := by
  have key : ∀ {a n c l}, SL encP 2 w a n c l → (0 < n → (Value.slice a n c).ownBlock ≠ v.ownBlock) → SL encP 2 w' a n c l ∧ (0 < n → (Value.slice a n c).ownBlock ≠ v'.ownBlock) := by
    intro a n c l hs hne
    refine ⟨hs.grown hg hne, fun hn => ?_⟩
    rcases hfr with h | h
    · rw [h]; exact hne hn
    · obtain ⟨b, o, rfl, hl⟩ := hs.at' hn
      rw [h]; intro e; simp [Value.ownBlock] at e; omega
  refine ⟨by simp [h.len], fun i u d hu hd => ?_⟩
  by_cases hi : i < us.length
  · rw [List.getElem?_append_left hi] at hu
    rw [List.getElem?_append_left (by rw [← h.len]; exact hi)] at hd
    obtain ⟨e, a, n, c, h1, h2, h3⟩ := h.el i u d hu hd
    obtain ⟨h4, h5⟩ := key h2 h3
    exact ⟨e, a, n, c, h1, h4, h5⟩
  · have hi2 := (List.getElem?_eq_some_iff.1 hu).1
    have : i = us.length := by simp at hi2; omega
    subst this
    rw [List.getElem?_append_right (Nat.le_refl _)] at hu
    rw [h.len, List.getElem?_append_right (Nat.le_refl _)] at hd
    simp at hu hd
    subst hu; subst hd
    obtain ⟨h4, h5⟩ := key hs hne
    exact ⟨rfl, _, _, _, rfl, h4, h5⟩
theorem info_span : (Try.prog.info? 26).map (fun i => (i.zero, i.size, i.bytes)) = some (some (.agg #[.int .i64 0, .int .i64 0]), 2, 16) := by kernel_rfl
theorem info2s : ∃ i, Try.prog.info? 26 = some i ∧ i.zero = some (.agg #[.int .i64 0, .int .i64 0]) ∧ i.size = 2 ∧ i.bytes = 16 := by
  obtain ⟨i, h1, h2, h3, h4⟩ := info_parts info_span
  exact ⟨i, h1, h2, h3, h4⟩
theorem info_dif : (Try.prog.info? 57).map (fun i => (i.zero, i.size, i.bytes)) = some (some (.agg #[.int .i64 0, .int .i64 0, .int .i64 0, .slice none 0 0]), 4, 48) := by kernel_rfl
theorem info4d : ∃ i, Try.prog.info? 57 = some i ∧ i.zero = some (.agg #[.int .i64 0, .int .i64 0, .int .i64 0, .slice none 0 0]) ∧ i.size = 4 ∧ i.bytes = 48 := by
  obtain ⟨i, h1, h2, h3, h4⟩ := info_parts info_dif
  exact ⟨i, h1, h2, h3, h4⟩
theorem new4 (w : World) (k : Key) (a : Option Addr) (n c : Nat) (t : TypeId) : ∀ j u, (encD (k, .slice a n c))[j]? = some u → (w.alloc (.cells #[.int .i64 k.kd, .int .i64 k.sb, .int .i64 k.ob, .slice a n c] t)).cell? (Addr.add ⟨w.heap.size, 0, none⟩ j) = some u := by
  intro j u hj
  have h := (Box.new w #[.int .i64 k.kd, .int .i64 k.sb, .int .i64 k.ob, .slice a n c] t).cell (0 + j)
  rw [show (Addr.add ⟨w.heap.size, 0, none⟩ j) = ⟨w.heap.size, 0 + j, none⟩ by (simp [Addr.add]; try omega), h, Nat.zero_add]
  rw [← hj]; simp [encD]
theorem encD_one (k : Key) (a : Option Addr) (n c : Nat) : ∀ u ∈ encD (k, .slice a n c), u.oneCell' = true := by intro u hu; simp [encD] at hu; rcases hu with rfl | rfl | rfl | rfl <;> rfl
end Go.Proofs.Ytfhekhjojdhmhaa
