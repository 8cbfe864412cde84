/- Contract of slices.Insert at slices of slices of ints, one value. -/
import Derived.Test.YtjiacdihfbbfjaaBsf
import Derived.Test.YtjiacdihfbbfjaaRefX
import Derived.Lib.AppendZeros
import Derived.Lib.Overlaps
import Derived.Laws.Externs
import Derived.Laws.IdiomCopy
import Derived.Laws.CopyRow
import Derived.Deep.RegionLaw
import Derived.WalkKit
import Derived.WalkSpells
import Derived.WalkLawsBesides
import Derived.Deep.LoopGhost
import Derived.Deep.QuietTactic
import Derived.BigQuiet
import Derived.StillTailTactics
import Derived.Lib.Hide
import Derived.Outline
import Derived.Lib.QuietBelow
namespace Go.Proofs.Ytjiacdihfbbfjaa
open Go.RowKit

theorem Elems.append {w : World} {row : Option Nat} {us vs : List Value} {ls ms : List (List Int)} (h : Elems w row us ls) (k : Elems w row vs ms) : Elems w row (us ++ vs) (ls ++ ms) := by
  induction h with
  | nil => exact k
  | cons h1 _ ih => exact .cons h1 ih
theorem Elems.take {w : World} {row : Option Nat} {us : List Value} {ls : List (List Int)} (h : Elems w row us ls) (i : Nat) : Elems w row (us.take i) (ls.take i) := by
  induction h generalizing i with
  | nil => simp; exact .nil
  | cons h1 _ ih => cases i with
    | zero => exact .nil
    | succ i => exact .cons h1 (ih i)
theorem Elems.drop {w : World} {row : Option Nat} {us : List Value} {ls : List (List Int)} (h : Elems w row us ls) (i : Nat) : Elems w row (us.drop i) (ls.drop i) := by
  induction h generalizing i with
  | nil => simp; exact .nil
  | cons h1 h2 ih => cases i with
    | zero => exact .cons h1 h2
    | succ i => exact ih i
def insAt {α : Type} (l : List α) (i : Nat) (x : α) : List α := l.take i ++ x :: l.drop i
theorem Elems.ins {w : World} {row : Option Nat} {us : List Value} {ls : List (List Int)} (h : Elems w row us ls) (i : Nat) {u : Value} {p : List Int} (hu : Elem w row u p) : Elems w row (insAt us i u) (insAt ls i p) :=
  (h.take i).append (.cons hu (h.drop i))
theorem insAt_len {α : Type} (l : List α) (i : Nat) (x : α) (h : i ≤ l.length) : (insAt l i x).length = l.length + 1 := by unfold insAt; simp; omega

/-- What Insert leaves: the row is the old one or a new one, all other blocks are as they were. -/
def RetIns (w : World) (base : Nat) (v : Value) (ll : List (List Int)) (e : Ending) (w' : World) : Prop := ∃ v', e = .returned v' ∧ OwnRows w' base 22 v' ll ∧ w.grownBy w' v.ownBlock ∧ (v'.ownBlock = v.ownBlock ∨ ∀ k, v'.ownBlock = some k → w.heap.size ≤ k)

/-- The elements of a row, where the row has been written or laid anew. -/
theorem Elems.moved {w w' : World} {row row' : Option Nat} {us : List Value} {ls : List (List Int)} (h : Elems w row us ls) (hg : w.grownBy w' row) (hfr : row' = row ∨ ∀ k, row' = some k → w.heap.size ≤ k) : Elems w' row' us ls :=
  h.mono fun u l ⟨a, n, c, e, hI, hne⟩ => by
    subst e
    refine ⟨a, n, c, rfl, hI.grown hg hne, fun hn => ?_⟩
    rcases hfr with h | h
    · rw [h]; exact hne hn
    · intro e
      obtain ⟨b, o, rfl, hl⟩ := hI.at' hn
      have := h b (by rw [← e]; rfl)
      omega

theorem own_cap {w : World} {base : Nat} {e : TypeId} {a : Option Addr} {n c : Nat} {xs : List Value} (h : w.ownsRow base e 1 (.slice a n c) n xs) : n ≤ c ∧ c ≤ maxLen := by
  obtain ⟨_, _, e1, h1, h2⟩ := own_slice h
  injection e1 with _ _ e3
  subst e3
  exact ⟨h1, h2⟩
theorem box_news {w : World} {vb : Nat} {u : Value} {t : TypeId} (hb : Box w vb #[u] t) : ∀ j x, [u][j]? = some x → w.cell? ((⟨vb, 0, none⟩ : Addr).add j) = some x := by
  intro j x hx
  cases j with
  | zero => simp at hx; subst hx; rw [Addr.add_lit]; simpa using hb.cell 0
  | succ j => simp at hx

theorem retIns_push {w w1 : World} {base n : Nat} {v v' : Value} {ll : List (List Int)} {us : List Value} {p : List Int} {ap : Option Addr} {np cp : Nat} (hE : Elems w v.ownBlock us ll) (hl : ll.length = n)
    (hown' : w1.ownsRow base 22 1 v' (n + 1) (us ++ [.slice ap np cp])) (hgrow : w.grownBy w1 v.ownBlock) (hfr : v'.ownBlock = v.ownBlock ∨ v'.ownBlock = some w.heap.size) (hp : Ints w ap np cp p) (hne : 0 < np → (Value.slice ap np cp).ownBlock ≠ v.ownBlock) :
    RetIns w base v (insAt ll n p) (.returned v') w1 := by
  refine ⟨_, rfl, ?_, hgrow, hfr.imp id (fun h k e => by rw [h] at e; simp at e; omega)⟩
  have hI : insAt ll n p = ll ++ [p] := by unfold insAt; rw [List.take_of_length_le (by omega), List.drop_eq_nil_of_le (by omega)]
  rw [hI]
  exact OwnRows.push hE (by rw [hl]; exact hown') hgrow hfr hp hne

set_option maxRecDepth 20000 in
set_option maxHeartbeats 2000000 in
theorem insert_end (a0 : Option Addr) (n c vb : Nat) (ap : Option Addr) (np cp : Nat) (ll : List (List Int)) (us : List Value) (p : List Int) (base : Nat) (w : World) (hO : w.ownsRow base 22 1 (.slice a0 n c) n us) (hE : Elems w (Value.slice a0 n c).ownBlock us ll) (hl : ll.length = n)
    (hp : Ints w ap np cp p) (hne : 0 < np → (Value.slice ap np cp).ownBlock ≠ (Value.slice a0 n c).ownBlock) (hb : Box w vb #[.slice ap np cp] 22) (hn : n ≤ 1000000) (hbase : base ≤ w.heap.size) :
    Calls Try.prog 61 #[.slice a0 n c, .int .i64 n, .slice (some ⟨vb, 0, none⟩) 1 1] w (RetIns w base (.slice a0 n c) (insAt ll n p)) := by
  obtain ⟨i22, hi22, hz220, hz221, hz222⟩ := info_parts info_ints
  have HL := Lib.hid hl
  clear hl
  obtain ⟨hnc, hcm⟩ := own_cap hO
  have HV := Lib.hid (box_news hb)
  unfold maxLen at hcm
  rcases Nat.lt_or_ge n c with hlt | hge
  · go_enter Try.func61, Try.ntmps61
    go_wp2_with (at_builtin; refine wpList_append_own2 _ rfl _ _ 28 rfl base 22 i22 (.slice none 0 0) 1 24 Try.underlying28 hi22 hz220 hz221 hz222 rfl (by decide) _ _ _ hO rfl ⟨vb, 0, none⟩ 1 1 [.slice ap np cp] rfl rfl HV.out (by simp [Value.oneCell']) (by unfold maxLen; omega) (by omega) hbase ?_; intro v' w1 hown' hgrow hfr)
    all_goals
      go_ret
      exact retIns_push hE HL.out hown' hgrow hfr hp hne
  · obtain rfl : n = c := by omega
    go_enter Try.func61, Try.ntmps61
    go_wp2_with (at_builtin; refine wpList_append_own2 _ rfl _ _ 28 rfl base 22 i22 (.slice none 0 0) 1 24 Try.underlying28 hi22 hz220 hz221 hz222 rfl (by decide) _ _ _ hO rfl ⟨vb, 0, none⟩ 1 1 [.slice ap np cp] rfl rfl HV.out (by simp [Value.oneCell']) (by unfold maxLen; omega) (by omega) hbase ?_; intro v' w1 hown' hgrow hfr)
    all_goals
      go_ret
      exact retIns_push hE HL.out hown' hgrow hfr hp hne

/-- A copy whose run is known, as a step of the walk, and of a region that draws. -/
theorem wpList_copy_known {P : Program} (w : World) {ops : Array Oper} {rest : List Oper} {o : Oper} {a : Act} {Q : Exit → Act → World → Prop} (hgd : o.guard = none) (d s : Operand) (t t' : TypeId)
    (ho : o.op = .call { callee := .builtin .copy, args := #[d, s], argTypes := #[t, t'] }) (v u : Value) (hd : a.eval d = v) (hs : a.eval s = u) {v' : Value} {w' : World}
    (hr : (Builtin.copy_ #[t, t'] o.type #[v, u]).run P w = .ok v' w') (h : wpList P ops Q rest (a.put o.dst v') w') : wpList P ops Q (o :: rest) a w :=
  wpList_plain hgd fun K hK => by
    unfold Oper.wp execOp
    simp only [ho, resolve, invoke, builtin, Sem.run_bind, Sem.run_pure, Result.andThen_ok, List.map_toArray, List.map_cons, List.map_nil, hd, hs, hr]
    exact hK _ _ h
theorem step_copy_known {P : Program} {ops : Array Oper} {o : Oper} {a : Act} {w : World} {K : Act → World → Prop} {Q : Exit → Act → World → Prop} {E : Prop}
    (hg : o.guard = none) (d x : Operand) (t t' : TypeId) (hop : o.op = Op.call { callee := Callee.builtin Builtin.copy, args := #[d, x], argTypes := #[t, t'] })
    (v u : Value) (hd : a.eval d = v) (hx : a.eval x = u) {v' : Value} {w' : World} (hr : (Builtin.copy_ #[t, t'] o.type #[v, u]).run P w = .ok v' w') (hK : K (a.put o.dst v') w') :
    if Region.wanted o (yielded ops a.tmps) = true then Oper.wp P o a w K Q else E := by
  have hw : Region.wanted o (yielded ops a.tmps) = true := by simp [Region.wanted, hg]
  rw [if_pos hw]
  unfold Oper.wp
  simp [execOp, hop, resolve, invoke, builtin, hd, hx, hr, Result.andThen]
  exact hK

theorem info_size22 : (Try.prog.info? 22).map (·.size) = some 1 := by kernel_rfl
theorem size22 (w : World) : (Go.sizeOf 22).run Try.prog w = .ok 1 w := by kernel_rfl

theorem Elems.one {w : World} {row : Option Nat} {us : List Value} {ls : List (List Int)} (h : Elems w row us ls) : ∀ v ∈ us, v.oneCell' = true := by
  induction h with
  | nil => intro v hv; simp at hv
  | cons h1 _ ih =>
    intro v hv
    rcases List.mem_cons.1 hv with rfl | hv
    · obtain ⟨a, n, c, rfl, _⟩ := h1; rfl
    · exact ih v hv
/-- The row behind the two copies. -/
def shift1 (cur : Array Value) (us : List Value) (i : Nat) : Array Value := (cur.toList.take (i + 1) ++ us.drop i ++ cur.toList.drop (i + 1 + (us.drop i).length)).toArray
def shift2 (cur1 : Array Value) (u : Value) (i : Nat) : Array Value := (cur1.toList.take i ++ [u] ++ cur1.toList.drop (i + [u].length)).toArray
theorem shift1_size {cur : Array Value} {us : List Value} {i n : Nat} (hu : us.length = n) (hi : i < n) (hc : n < cur.size) : (shift1 cur us i).size = cur.size := by
  unfold shift1; simp; omega
theorem shift2_list {cur : Array Value} {us : List Value} {i n : Nat} {u : Value} (hu : us.length = n) (hi : i < n) (hc : n < cur.size) (ht : cur.toList.take n = us) :
    (shift2 (shift1 cur us i) u i).toList = insAt us i u ++ cur.toList.drop (n + 1) := by
  have e1 : cur.toList.take i = us.take i := by rw [← ht, List.take_take]; congr 1; omega
  have e2 : cur.toList.take (i + 1) = us.take i ++ [cur.toList[i]'(by simp; omega)] := by
    rw [List.take_succ_eq_append_getElem (by simp; omega), e1]
  unfold shift2 shift1 insAt
  simp only [List.length_drop, List.length_cons, List.length_nil, hu]
  rw [e2]
  have hl : (us.take i).length = i := by rw [List.length_take]; omega
  have h1 : List.take i (List.take i us ++ [cur.toList[i]'(by simp; omega)] ++ List.drop i us ++ List.drop (i + 1 + (n - i)) cur.toList) = List.take i us := by
    rw [List.append_assoc, List.append_assoc, List.take_append_of_le_length (by omega), List.take_of_length_le (by omega)]
  have h2 : List.drop (i + (0 + 1)) (List.take i us ++ [cur.toList[i]'(by simp; omega)] ++ List.drop i us ++ List.drop (i + 1 + (n - i)) cur.toList) = List.drop i us ++ List.drop (i + 1 + (n - i)) cur.toList := by
    rw [List.append_assoc (List.take i us ++ _), List.drop_append_of_le_length (by simp; omega), List.drop_of_length_le (by simp; omega), List.nil_append]
  rw [h1, h2, show i + 1 + (n - i) = n + 1 by omega]
  simp
theorem shift2_take {cur : Array Value} {us : List Value} {i n : Nat} {u : Value} (hu : us.length = n) (hi : i < n) (hc : n < cur.size) (ht : cur.toList.take n = us) :
    (shift2 (shift1 cur us i) u i).toList.take (n + 1) = insAt us i u ∧ (shift2 (shift1 cur us i) u i).size = cur.size := by
  have h := shift2_list (u := u) hu hi hc ht
  have hl : (insAt us i u).length = n + 1 := by rw [insAt_len _ _ _ (by omega), hu]
  refine ⟨by rw [h, List.take_append_of_le_length (by omega), List.take_of_length_le (by omega)], ?_⟩
  rw [← Array.length_toList, h, List.length_append, hl, List.length_drop, Array.length_toList]; omega

set_option maxRecDepth 20000 in
set_option maxHeartbeats 2000000 in
theorem insert_shift (g n c i vb : Nat) (ap : Option Addr) (np cp : Nat) (ll : List (List Int)) (us : List Value) (p : List Int) (base : Nat) (w : World) (hO : w.ownsRow base 22 1 (.slice (some ⟨g, 0, none⟩) n c) n us) (hE : Elems w (some g) us ll) (hl : ll.length = n)
    (hp : Ints w ap np cp p) (hne : 0 < np → (Value.slice ap np cp).ownBlock ≠ some g) (hb : Box w vb #[.slice ap np cp] 22) (hgv : vb ≠ g) (hn : n ≤ 1000000) (hi : i < n) (hroom : n < c) :
    Calls Try.prog 61 #[.slice (some ⟨g, 0, none⟩) n c, .int .i64 i, .slice (some ⟨vb, 0, none⟩) 1 1] w (RetIns w base (.slice (some ⟨g, 0, none⟩) n c) (insAt ll i p)) := by
  obtain ⟨hul, h2⟩ := hO
  rcases h2 with ⟨h2, _⟩ | ⟨g', c', cur, e1, hbg, hg, hnc, hcm, hcs, htake⟩
  · cases h2
  injection e1 with e1 _ e3
  subst e3
  obtain rfl : g = g' := by simpa using e1
  unfold maxLen at hcm
  simp only [Nat.mul_one] at hul hcs htake
  have hHl := Lib.hid hl
  have hHu := Lib.hid hul
  have hHt := Lib.hid htake
  have hHc := Lib.hid hcs
  clear hl hul htake hcs e1
  have hov : ∀ lb cb, (callFunc 91 #[.slice (some ⟨vb, 0, none⟩) 1 1, .slice (some ⟨g, i + 1, none⟩) lb cb]).run Try.prog w = .ok (.value (.bool false)) w := by
    intro lb cb
    rw [run_callFunc_extern Try.func91 (by kernel_rfl) (by kernel_rfl) (by kernel_rfl) (e := Extern.SlicesOverlaps.overlaps #[28, 28] #[4]) (by kernel_rfl),
      Lib.run_overlaps_apart w 28 4 22 Try.underlying28 1 size22 ⟨vb, 0, none⟩ ⟨g, i + 1, none⟩ 1 1 lb cb hgv 22 22 1 cur.size (by unfold Box at hb; simp [World.shape?, hb]) (by simp [World.shape?, hg]) (by rw [hHc.out]; omega) (hb.frozen 0) (hb.frozen 1)]
    rfl
  have hdl : (us.drop i).length = n - i := by rw [List.length_drop, hHu.out]
  have hcp1 : ∀ ty dc sc, (Builtin.copy_ #[28, 28] ty #[.slice (some ⟨g, i + 1, none⟩) (n - i) dc, .slice (some ⟨g, i, none⟩) (n + 1 - i) sc]).run Try.prog w.drew = .ok (goInt (us.drop i).length) (w.drew.setRow g (shift1 cur us i)) := fun ty dc sc =>
    run_copy_row Try.prog w.drew 28 28 ty 22 g (i + 1) (n - i) dc ⟨g, i, none⟩ (n + 1 - i) sc cur 22 (us.drop i) Try.underlying28 info_size22 hg (by rw [hdl]; simp only [Nat.min_def]; split <;> omega)
      (fun j v hj => by
        rw [Addr.add_lit, cell_of_row w.drew g (i + j) cur 22 (0, 0) hg]
        rw [List.getElem?_drop, ← hHt.out, List.getElem?_take] at hj
        split at hj
        · simpa using hj
        · cases hj)
      (by rw [hdl, hHc.out]; omega) (fun v hv => hE.one v (List.mem_of_mem_drop hv))
  have hs1 : (w.drew.setRow g (shift1 cur us i)).heap[g]? = some (.cells (shift1 cur us i) 22 (0, 0)) := setRow_heap w.drew g cur _ 22 _ hg
  have hz1 := shift1_size (cur := cur) (us := us) (i := i) hHu.out hi (by rw [hHc.out]; omega)
  obtain ⟨W1, hW1⟩ : ∃ W1, w.drew.setRow g (shift1 cur us i) = W1 := ⟨_, rfl⟩
  obtain ⟨C1, hC1⟩ : ∃ C1, shift1 cur us i = C1 := ⟨_, rfl⟩
  have hbv : W1.cell? ⟨vb, 0, none⟩ = some (.slice ap np cp) := by
    rw [← hW1, cell_setRow_other _ _ _ _ (by simpa using hgv)]
    simpa using hb.cell 0
  rw [hW1] at hcp1 hs1
  rw [hC1] at hs1 hz1
  have hcp2 : ∀ ty dc, (Builtin.copy_ #[28, 28] ty #[.slice (some ⟨g, i, none⟩) (n + 1 - i) dc, .slice (some ⟨vb, 0, none⟩) 1 1]).run Try.prog W1 = .ok (goInt 1) (W1.setRow g (shift2 C1 (.slice ap np cp) i)) := fun ty dc =>
    run_copy_row Try.prog W1 28 28 ty 22 g i (n + 1 - i) dc ⟨vb, 0, none⟩ 1 1 C1 22 [.slice ap np cp] Try.underlying28 info_size22 hs1 (by simp only [Nat.min_def]; split <;> simp; omega)
      (fun j v hj => by
        cases j with
        | zero => simp at hj; subst hj; rw [Addr.add_lit]; exact hbv
        | succ j => simp at hj)
      (by rw [hz1, hHc.out]; simp; omega) (by simp [Value.oneCell'])
  have HW1 := Lib.hid hW1
  have HC1 := Lib.hid hC1
  have HS1 := Lib.hid hs1
  have HZ1 := Lib.hid hz1
  have HDL := Lib.hid hdl
  have HBV := Lib.hid hbv
  clear hW1 hC1 hs1 hz1 hdl hbv
  have hw1 : IntKind.i64.wrap ((i : Int) + 1) = (i : Int) + 1 := by rw [IntKind.wrap_i64]; omega
  have hb1 : (0 : Int) ≤ (i : Int) + 1 := by omega
  have htn : ((i : Int) + 1).toNat = i + 1 := by omega
  have hb2 : ¬ (c = i + 1) := by omega
  have hb3 : (i : Int) ≤ (n : Int) + 1 := by omega
  have hb4 : ¬ (c = i) := by omega
  have hb5 : i ≤ n := by omega
  have hb6 : i ≤ n + 1 := by omega
  go_enter Try.func61, Try.ntmps61
  go_wp2_with (simp only [hov])
  go_region_law (refine step_copy_known rfl _ _ 28 28 rfl _ _ (by simp [Act.eval, Act.put]) (by simp [Act.eval, Act.put]) (hcp1 _ _ _) ?_)
  go_wp2_with (with_reducible refine wpList_copy_known _ rfl _ _ 28 28 rfl _ _ rfl rfl (hcp2 _ _) ?_)
  go_ret
  have hs1 := HS1.out
  have hz1 := HZ1.out
  have hg2 : w.grownBy (W1.setRow g (shift2 C1 (.slice ap np cp) i)) (some g) := by
    rw [← HW1.out]
    refine ⟨rfl, rfl, rfl, by rw [setRow_size, setRow_size]; exact Nat.le_refl _, fun k hk hne => ?_⟩
    rw [setRow_other _ _ _ _ (fun e => hne (by rw [e])), setRow_other _ _ _ _ (fun e => hne (by rw [e]))]
    rfl
  refine ⟨_, rfl, ⟨insAt us i (.slice ap np cp), ?_, ?_⟩, hg2, .inl rfl⟩
  · have hst := shift2_take (u := .slice ap np cp) hHu.out hi (by rw [hHc.out]; omega) hHt.out
    rw [HC1.out] at hst
    rw [insAt_len _ _ _ (by rw [hHl.out]; omega), hHl.out]
    refine ⟨by rw [insAt_len _ _ _ (by rw [hHu.out]; omega), hHu.out]; omega, .inr ⟨g, c, shift2 C1 (.slice ap np cp) i, rfl, hbg, setRow_heap W1 g C1 _ 22 _ hs1, by omega, by unfold maxLen; omega, by rw [hst.2, hHc.out, Nat.mul_one], by rw [Nat.mul_one]; exact hst.1⟩⟩
  · exact (hE.ins i ⟨ap, np, cp, rfl, hp, hne⟩).moved hg2 (.inl rfl)
end Go.Proofs.Ytjiacdihfbbfjaa

