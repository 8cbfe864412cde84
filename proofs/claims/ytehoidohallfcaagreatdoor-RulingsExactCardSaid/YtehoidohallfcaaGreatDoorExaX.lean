/- What RulingsExact says, in plain words. -/
import Derived.Test.YtehoidohallfcaaGreatDoorPlM
import Derived.Test.YtehoidohallfcaaGreatDoorNxtC
import Derived.Test.YtehoidohallfcaaGreatDoorAddA
import Derived.WalkKit
import Derived.WalkSpells
import Derived.WalkLawsBesides
import Derived.Deep.LoopGhost
import Derived.Deep.QuietTactic
import Derived.BigQuiet
import Derived.StillTailTactics
import Derived.Lib.Hide
import Derived.Outline
import Derived.Lib.QuietBelow
namespace Go.Proofs.YtehoidohallfcaaGreatDoor

section
variable {G : Type} {s : Sh} {l : List Rs} {fs : List (Ft G)} {d : Int}
/-- The results with their least times. -/
def exL (l : List Rs) : List Rs := l.map fun x => { x with hi := x.lo }
def loL (l : List Rs) : List Int := l.map (·.lo)
theorem exL_len (l : List Rs) : (exL l).length = l.length := by simp [exL]
theorem loL_len (l : List Rs) : (loL l).length = l.length := by simp [loL]
theorem res_ex (fs : List (Ft G)) (d : Int) (l : List Rs) : ExL (resL fs d (exL l)) := by
  intro x hx
  unfold resL exL at hx
  rw [List.map_map] at hx
  obtain ⟨y, _, rfl⟩ := List.mem_map.1 hx
  rfl
theorem res_lo (fs : List (Ft G)) (d : Int) (l : List Rs) : (resL fs d (exL l)).map (·.lo) = loL l := by
  unfold resL exL loL
  rw [List.map_map, List.map_map]
  rfl
theorem rkE_rs {s : Sh} {l : List Rs} (h : rkE s l = 0) : l.all (okRs s) = true := by
  unfold rkE at h
  split at h
  · cases h
  · split at h
    · rename_i h1; exact absurd h h1
    · split at h
      · rename_i h1; rw [Bool.and_eq_true] at h1; exact h1.2
      · cases h
theorem exact_law (h : agE s (exL l) fs d = 0) : ruE s (exL l) fs d = 0 ∧ ruR s (exL l) fs d = resL fs d (exL l) ∧ exE s (resL fs d (exL l)) (loL l) = 0 ∧ agR s (exL l) fs d = ⟨rankL (exR s (resL fs d (exL l)) (loL l)), rankL (exR s (resL fs d (exL l)) (loL l)), []⟩ := by
  unfold agE at h
  have h1 : ruE s (exL l) fs d = 0 := Classical.byContradiction fun hn => by rw [if_pos hn] at h; exact hn h
  rw [if_neg (fun x => x h1)] at h
  have h2 : rkE s (resL fs d (exL l)) = 0 := by
    unfold rankE at h
    exact Classical.byContradiction fun hn => by rw [if_pos hn] at h; exact hn h
  have h3 := rkE_rs h2
  have h4 := ordO_one h3 (res_ex fs d l)
  rw [res_lo] at h4
  have h5 : exE s (resL fs d (exL l)) (loL l) = 0 := by
    unfold exE
    rw [if_neg (fun x => x h2), if_neg (by rw [loL_len, resL_len, exL_len]; exact fun x => x rfl), if_pos]
    rw [List.all_eq_true]
    intro i hi
    have hi := List.mem_range.1 hi
    rw [loL_len] at hi
    have hx : ((resL fs d (exL l)).getD i R0) ∈ resL fs d (exL l) := by
      rw [List.getD_eq_getElem?_getD, List.getElem?_eq_getElem (by rw [resL_len, exL_len]; exact hi)]
      exact List.getElem_mem _
    have e1 : (loL l).getD i 0 = ((resL fs d (exL l)).getD i R0).lo := by
      rw [← res_lo fs d l, List.getD_eq_getElem?_getD, List.getElem?_map, List.getD_eq_getElem?_getD, List.getElem?_eq_getElem (by rw [resL_len, exL_len]; exact hi)]
      rfl
    have e2 := res_ex fs d l _ hx
    unfold exB
    rw [e1, e2]; simp
  refine ⟨h1, by unfold ruR; rw [if_neg (fun x => x h1)], h5, ?_⟩
  unfold agR
  rw [if_neg (fun x => x h1)]
  unfold rankR
  rw [if_neg (fun x => x h2), h4]
  simp only
  rw [rkOf_one]
  unfold exR
  rw [if_neg (fun x => x h5)]
/-! ### ranking.Exact, step by step -/
theorem exE_1 {times : List Int} (h : rkE s l ≠ 0) : exE s l times = rkE s l ∧ exR s l times = [] := by
  have e : exE s l times = rkE s l := by unfold exE; rw [if_pos h]
  exact ⟨e, by unfold exR; rw [if_pos (by rw [e]; exact h)]⟩
theorem exE_2 {times : List Int} (h : rkE s l = 0) (h2 : times.length ≠ l.length) : exE s l times = 1 ∧ exR s l times = [] := by
  have e : exE s l times = 1 := by unfold exE; rw [if_neg (fun x => x h), if_pos h2]
  exact ⟨e, by unfold exR; rw [if_pos (by rw [e]; decide)]⟩
theorem exE_3 {times : List Int} (h : rkE s l = 0) (h2 : times.length = l.length) {i : Nat} (hi : i < times.length) (hb : exB l times i = false) : exE s l times = 1 ∧ exR s l times = [] := by
  have e : exE s l times = 1 := by
    unfold exE
    rw [if_neg (fun x => x h), if_neg (fun x => x h2), if_neg]
    intro hh
    have := List.all_eq_true.1 hh i (List.mem_range.2 hi)
    rw [hb] at this; cases this
  exact ⟨e, by unfold exR; rw [if_pos (by rw [e]; decide)]⟩
theorem exE_4 {times : List Int} (h : rkE s l = 0) (h2 : times.length = l.length) (hb : ∀ i, i < times.length → exB l times i = true) : exE s l times = 0 ∧ exR s l times = exTo s l times s.cs.toNat s.ps.toNat := by
  have e : exE s l times = 0 := by
    unfold exE
    rw [if_neg (fun x => x h), if_neg (fun x => x h2), if_pos]
    rw [List.all_eq_true]
    intro i hi
    exact hb i (List.mem_range.1 hi)
  exact ⟨e, by unfold exR; rw [if_neg (fun x => x e)]⟩
/-- The places after some of the results. -/
def plTo (t : List Int) (x : Int) (k : Nat) : Int := (((t.take k).filter fun y => decide (y < x)).length : Int) + 1
theorem plTo_0 (t : List Int) (x : Int) : plTo t x 0 = 1 := by simp [plTo]
theorem plTo_step {t : List Int} {x y : Int} {k : Nat} (h : t[k]? = some y) : plTo t x (k + 1) = if y < x then plTo t x k + 1 else plTo t x k := by
  obtain ⟨hk, e⟩ := List.getElem?_eq_some_iff.1 h
  unfold plTo
  rw [List.take_succ_eq_append_getElem hk, e, List.filter_append, List.length_append]
  by_cases hy : y < x
  · rw [if_pos hy]; simp [hy]
  · rw [if_neg hy]; simp [hy]
theorem plTo_all (t : List Int) (x : Int) {k : Nat} (h : t.length ≤ k) : plTo t x k = (lessN t x : Int) + 1 := by
  unfold plTo lessN; rw [List.take_of_length_le h]
theorem plTo_bd (t : List Int) (x : Int) (k : Nat) : 1 ≤ plTo t x k ∧ plTo t x k ≤ k + 1 := by
  unfold plTo
  have h1 := List.length_filter_le (fun y => decide (y < x)) (t.take k)
  rw [List.length_take] at h1
  omega
theorem places_get {t : List Int} {i : Nat} {x : Int} (h : t[i]? = some x) : (placesL t)[i]? = some (plTo t x t.length) := by
  unfold placesL
  rw [List.getElem?_map, h, plTo_all t x (Nat.le_refl _)]; rfl
/-- The places, of which i are filled in and the rest are zero. -/
def plFill (t : List Int) (i : Nat) : List Int := (placesL t).take i ++ List.replicate (t.length - i) 0
theorem plFill_0 (t : List Int) : plFill t 0 = List.replicate t.length 0 := by simp [plFill]
theorem plFill_all (t : List Int) : plFill t t.length = placesL t := by unfold plFill; rw [List.take_of_length_le (by simp [placesL])]; simp
theorem plFill_len (t : List Int) (i : Nat) (h : i ≤ t.length) : (plFill t i).length = t.length := by unfold plFill; simp [placesL]; omega
theorem plFill_step {t : List Int} {i : Nat} {x : Int} (h : t[i]? = some x) : plFill t (i + 1) = (plFill t i).set i (plTo t x t.length) := by
  obtain ⟨hi, _⟩ := List.getElem?_eq_some_iff.1 h
  have hp := places_get h
  obtain ⟨hi2, e⟩ := List.getElem?_eq_some_iff.1 hp
  unfold plFill
  rw [List.take_succ_eq_append_getElem hi2, e]
  have hl : ((placesL t).take i).length = i := by rw [List.length_take]; omega
  rw [List.set_append_right _ _ (by omega), hl, Nat.sub_self]
  obtain ⟨m, hm⟩ : ∃ m, t.length - i = m + 1 := ⟨t.length - i - 1, by omega⟩
  rw [hm, show t.length - (i + 1) = m by omega, List.replicate_succ]
  simp
end
end Go.Proofs.YtehoidohallfcaaGreatDoor

/- What law54.RulingsExact fills in, step by step. Plain words. -/
namespace Go.Proofs.YtehoidohallfcaaGreatDoor

def exOf (x : Rs) : Rs := { x with hi := x.lo }
def exK (l : List Rs) (k : Nat) : List Rs := (l.take k).map exOf ++ l.drop k
def loK (l : List Rs) (k : Nat) : List Int := (l.take k).map (·.lo) ++ List.replicate (l.length - k) 0
theorem exK_0 (l : List Rs) : exK l 0 = l := by simp [exK]
theorem exK_all (l : List Rs) {n : Nat} (h : l.length = n) : exK l n = exL l := by
  unfold exK exL
  rw [List.take_of_length_le (by omega), List.drop_of_length_le (by omega), List.append_nil]
  rfl
theorem exK_len (l : List Rs) {k : Nat} (h : k ≤ l.length) : (exK l k).length = l.length := by unfold exK; simp; omega
theorem exK_at {l : List Rs} {k : Nat} {x : Rs} (h : l[k]? = some x) : (exK l k)[k]? = some x := by
  have hk := (List.getElem?_eq_some_iff.1 h).1
  unfold exK
  rw [List.getElem?_append_right (by simp; omega), List.length_map, List.length_take, Nat.min_eq_left (by omega), Nat.sub_self, List.getElem?_drop]
  exact h
theorem exK_set {l : List Rs} {k : Nat} {x : Rs} (h : l[k]? = some x) : (exK l k).set k (exOf x) = exK l (k + 1) := by
  obtain ⟨hk, e⟩ := List.getElem?_eq_some_iff.1 h
  unfold exK
  have hl : ((l.take k).map exOf).length = k := by rw [List.length_map, List.length_take]; omega
  rw [List.set_append_right _ _ (by omega), hl, Nat.sub_self, List.take_succ_eq_append_getElem hk, e, List.map_append, List.append_assoc]
  congr 1
  rw [List.drop_eq_getElem_cons hk]
  rfl
theorem loK_0 (l : List Rs) {n : Nat} (h : l.length = n) : loK l 0 = List.replicate n 0 := by simp [loK, h]
theorem loK_all (l : List Rs) {n : Nat} (h : l.length = n) : loK l n = loL l := by
  unfold loK loL
  rw [List.take_of_length_le (by omega), h, Nat.sub_self]
  simp
theorem loK_len (l : List Rs) {k : Nat} (h : k ≤ l.length) : (loK l k).length = l.length := by unfold loK; simp; omega
theorem loK_set {l : List Rs} {k : Nat} {x : Rs} (h : l[k]? = some x) : (loK l k).set k x.lo = loK l (k + 1) := by
  obtain ⟨hk, e⟩ := List.getElem?_eq_some_iff.1 h
  unfold loK
  have hl : ((l.take k).map (·.lo)).length = k := by rw [List.length_map, List.length_take]; omega
  rw [List.set_append_right _ _ (by omega), hl, Nat.sub_self, List.take_succ_eq_append_getElem hk, e, List.map_append, List.append_assoc]
  congr 1
  obtain ⟨m, hm⟩ : ∃ m, l.length - k = m + 1 := ⟨l.length - k - 1, by omega⟩
  rw [hm, show l.length - (k + 1) = m by omega, List.replicate_succ]
  rfl
end Go.Proofs.YtehoidohallfcaaGreatDoor

/- Contract of ranking.Exact. -/
namespace Go.Proofs.YtehoidohallfcaaGreatDoor
open Go.RowKit
attribute [local go_sem] Oper.semAt_some

def RetX (W : World) (l : List Int) (E : Int) (e : Ending) (w' : World) : Prop := ∃ v, e = .returned (.tuple #[v, .int .i64 E]) ∧ OwnInts w' W.heap.size 3 v l ∧ Below W.heap.size W w'
theorem exTo_len (s : Sh) (l : List Rs) (times : List Int) (n : Nat) : ∀ p, (exTo s l times n p).length = n
  | 0 => by simp [exTo]
  | p + 1 => by unfold exTo addT; rw [addTo_len, exTo_len s l times n p]
theorem BdT.mono {A B : Int} {t : List Int} (h : BdT A t) (hAB : A ≤ B) : BdT B t := fun x hx => ⟨(h x hx).1, Int.le_trans (h x hx).2 hAB⟩
section
variable {s : Sh} {l : List Rs} (h : l.all (okRs s) = true) {C : Nat} (hC : s.cs ≤ C)
include h hC
theorem exTo_cm (p : Nat) (k : Nat) (hk : k < (cntL l p).length) : (rsAt l ((cntL l p).getD k 0)).cm.toNat < C := by
  obtain ⟨h1, h2, _⟩ := cntL_mem (own_mem hk)
  have := okRs_iv (rs_mem h h1 h2)
  omega
theorem exTo_pad (times : List Int) (d : Nat) : ∀ p : Nat, exTo s l times (C + d) p = exTo s l times C p ++ List.replicate d 0
  | 0 => rep_app C d
  | p + 1 => by
    unfold exTo
    rw [exTo_pad times d p]
    unfold addT
    exact addTo_app s l p _ _ _ _ (fun k hk => by rw [exTo_len]; exact exTo_cm h hC p k hk) _ (Nat.le_refl _)
theorem exTo_bd (times : List Int) (n : Nat) : ∀ p : Nat, BdT ((p : Int) * ((C : Int) * 1048576)) (exTo s l times n p)
  | 0 => fun x hx => by
    have := List.eq_of_mem_replicate hx
    subst this; simp
  | p + 1 => by
    have h1 := exTo_bd times n p
    have h2 := addTo_bd s l p (cntL l p) (placesL (exOwn times (cntL l p))) (B := (p : Int) * ((C : Int) * 1048576)) (Int.mul_nonneg (by omega) (by omega)) h1 (cntL l p).length
    have h3 := cnt_len h hC (p : Int)
    refine BdT.mono h2 ?_
    have h4 : ((cntL l p).length : Int) * 1048576 ≤ (C : Int) * 1048576 := by omega
    have h5 : ((p + 1 : Nat) : Int) * ((C : Int) * 1048576) = (p : Int) * ((C : Int) * 1048576) + (C : Int) * 1048576 := by
      rw [Int.natCast_add, Int.add_mul]; simp
    omega
end
theorem box_take8 {w : World} {b : Nat} {x : List Int} {t : TypeId} (h : Box w b (tA x) t) (hx : x.length = 8) {c : Nat} (hc : c ≤ 8) : Ints w (some ⟨b, 0, none⟩) c 8 (x.take c) where
  len := by rw [List.length_take, hx]; omega
  cap := hc
  mx := by unfold maxLen; omega
  at' := fun _ => ⟨_, _, rfl, h.lt⟩
  cell := fun b' o e i hi => by
    injection e with e
    injection e with e1 e2
    subst e1 e2
    rw [Nat.zero_add, h.cell i, tA_get (by omega), List.getElem?_take, if_pos hi, List.getD_eq_getElem?_getD]
theorem box_ints {w : World} {b : Nat} {x : List Int} {t : TypeId} (h : Box w b (tA x) t) {n : Nat} (hx : x.length = n) (hn : n ≤ 1000000) : Ints w (some ⟨b, 0, none⟩) n n x where
  len := hx
  cap := Nat.le_refl _
  mx := by unfold maxLen; omega
  at' := fun _ => ⟨_, _, rfl, h.lt⟩
  cell := fun b' o e i hi => by
    injection e with e
    injection e with e1 e2
    subst e1 e2
    rw [Nat.zero_add, h.cell i, tA_get (by omega), List.getD_eq_getElem?_getD]
theorem exB_at {l : List Rs} {ts : List Int} {k : Nat} {x : Rs} {t : Int} (hx : l[k]? = some x) (ht : ts[k]? = some t) : exB l ts k = (decide (x.lo ≤ t) && decide (t ≤ x.hi)) := by
  unfold exB
  rw [List.getD_eq_getElem?_getD, hx, List.getD_eq_getElem?_getD, ht]; rfl
theorem exOwn_get {ts C : List Int} {k : Nat} {x : Int} (h : C[k]? = some x) : (exOwn ts C)[k]? = some (ts.getD x.toNat 0) := by
  unfold exOwn; rw [List.getElem?_map, h]; rfl
theorem exOwn_len (ts C : List Int) : (exOwn ts C).length = C.length := by simp [exOwn]
set_option maxHeartbeats 8000000 in
set_option maxRecDepth 100000 in
theorem exact_any (S : Sp) (al : Option Addr) (nl cl : Nat) (l : List Rs) (ta : Option Addr) (tn tc : Nat) (ts : List Int) (W : World) (ht : Tab W) (hS : S.In W) (h0 : SL encRs 6 W al nl cl l) (hT : Ints W ta tn tc ts) :
    Calls Tryz.prog 20 #[.agg #[.int .i64 S.sh.cs, .int .i64 S.sh.ps, .slice S.la S.ln S.lc, .slice S.ca S.cn S.cc, .slice S.pa S.pn S.pc, .slice S.ra S.rn S.rc], .slice al nl cl, .slice ta tn tc] W (RetX W (exR S.sh l ts) (exE S.sh l ts)) := by
  have hx1 := Box.new W #[.int .i64 S.sh.cs, .int .i64 S.sh.ps, .slice S.la S.ln S.lc, .slice S.ca S.cn S.cc, .slice S.pa S.pn S.pc, .slice S.ra S.rn S.rc] 25
  have hbb : Below W.heap.size W (W.alloc (.cells #[.int .i64 S.sh.cs, .int .i64 S.sh.ps, .slice S.la S.ln S.lc, .slice S.ca S.cn S.cc, .slice S.pa S.pn S.pc, .slice S.ra S.rn S.rc] 25)) := (Below.refl _ _).alloc (Nat.le_refl _) _
  obtain ⟨w0, hw0⟩ : ∃ w0, W.alloc (.cells #[.int .i64 S.sh.cs, .int .i64 S.sh.ps, .slice S.la S.ln S.lc, .slice S.ca S.cn S.cc, .slice S.pa S.pn S.pc, .slice S.ra S.rn S.rc] 25) = w0 := ⟨_, rfl⟩
  rw [hw0] at hx1 hbb
  have HCK := Lib.hid (rkCheck_any ptC S al nl cl l w0 (ht.below hbb) (hS.below hbb) (h0.below hbb))
  have HW0 := Lib.hid hw0
  have HL := Lib.hid h0.len
  have HTL := Lib.hid hT.len
  clear hw0
  obtain ⟨E, hE⟩ : ∃ E, rkE S.sh l = E := ⟨_, rfl⟩
  rw [hE] at HCK
  by_cases he : E = 0
  rotate_left
  · have HR := Lib.hid (exE_1 (times := ts) (s := S.sh) (l := l) (by rw [hE]; exact he))
    rw [hE] at HR
    have g1 : (E != 0) = true := by simpa using he
    clear hE he
    obtain ⟨d0, d1, d2, d3, d4, d5⟩ := hx1.g6
    go_enter Tryz.func20, Tryz.ntmps20
    go_wp2_with fail
    rw [HW0.out]
    go_wp2_with fail
    refine HCK.out.mono ?_
    rintro e w1 ⟨rfl, hB1⟩
    have hx1 := hx1.below hB1
    have hbb := hbb.on hB1
    clear d0 d1 d2 d3 d4 d5 hB1
    go_wp2_with fail
    refine bodyPost_ret (v := .tuple #[.slice none 0 0, .int .i64 (exE S.sh l ts)]) (by simp [results, Tryz.results20, go_sem, HR.out.1]) rfl ?_
    exact ⟨_, rfl, by rw [HR.out.2]; exact OwnInts.nil _ _ _, hbb⟩
  subst he
  have HE := Lib.hid hE
  clear hE
  by_cases hln : tn = nl
  rotate_left
  · have n1 : ((tn : Int) != (nl : Int)) = true := by simp; omega
    have n2 : (tn != nl) = true := by simpa using hln
    have HR := Lib.hid (exE_2 (times := ts) (s := S.sh) (l := l) HE.out (by rw [HL.out, HTL.out]; exact hln))
    clear hln
    obtain ⟨d0, d1, d2, d3, d4, d5⟩ := hx1.g6
    go_enter Tryz.func20, Tryz.ntmps20
    go_wp2_with fail
    rw [HW0.out]
    go_wp2_with fail
    refine HCK.out.mono ?_
    rintro e w1 ⟨rfl, hB1⟩
    have hx1 := hx1.below hB1
    have hbb := hbb.on hB1
    clear d0 d1 d2 d3 d4 d5 hB1
    go_wp2_with fail
    refine bodyPost_ret (v := .tuple #[.slice none 0 0, .int .i64 (exE S.sh l ts)]) (by simp [results, Tryz.results20, go_sem, HR.out.1]) rfl ?_
    exact ⟨_, rfl, by rw [HR.out.2]; exact OwnInts.nil _ _ _, hbb⟩
  subst hln
  have n1 : ((tn : Int) != (tn : Int)) = false := by simp
  have hok := okIn_of HE.out
  obtain ⟨⟨k1, k2⟩, ⟨k3, k4⟩, _⟩ := hok.parts
  have hn32 : tn ≤ 32 := by rw [← HL.out]; exact hok.len
  have HOK := Lib.hid hok
  clear hok
  obtain ⟨d0, d1, d2, d3, d4, d5⟩ := hx1.g6
  go_enter Tryz.func20, Tryz.ntmps20
  go_wp2_with fail
  rw [HW0.out]
  go_wp2_with fail
  refine HCK.out.mono ?_
  rintro e w1 ⟨rfl, hB1⟩
  have hx1 := hx1.below hB1
  have hbb := hbb.on hB1
  clear d0 d1 d2 d3 d4 d5 hB1
  go_wp2_with fail
  have mL := h0.mx
  have cL := h0.cap
  have mT := hT.mx
  have cT := hT.cap
  unfold maxLen at mL mT
  go_loop [32] (fun i => ∃ k : Nat, i = .int .i64 k ∧ k ≤ tn ∧ Hid (∀ j, j < k → exB l ts j = true)) (fun i => tn - (intOf i).toNat)
  case atStart => exact ⟨0, rfl, by omega, Lib.hid (fun j hj => by omega)⟩
  case round =>
    obtain ⟨k, rfl, hk, HA⟩ := hrel
    have s0 : (0 : Int) ≤ (k : Int) := by omega
    by_cases hlt : k < tn
    · have s1 : (k : Int) < (tn : Int) := by omega
      obtain ⟨lb, lo, rfl, hlb⟩ := h0.at' (by omega)
      obtain ⟨tb, to, rfl, htb⟩ := hT.at' (by omega)
      obtain ⟨x, hx⟩ := h0.get hlt
      obtain ⟨t, htt⟩ := hT.has hlt
      obtain ⟨-, -, -, e3, e4, -⟩ := (h0.below hbb).rs6 hx
      have e0 := (hT.below hbb).get htt
      have HX := Lib.hid (exB_at hx htt)
      clear hx htt
      by_cases c1 : t < x.lo
      · have n2 : decide (t < x.lo) = true := by simpa using c1
        have HR := Lib.hid (exE_3 (times := ts) (s := S.sh) (l := l) HE.out (by rw [HL.out, HTL.out]) (i := k) (by rw [HTL.out]; exact hlt) (by rw [HX.out]; simp; omega))
        clear c1
        go_wp2_with fail
        refine bodyPost_ret (v := .tuple #[.slice none 0 0, .int .i64 (exE S.sh l ts)]) (by simp [results, Tryz.results20, go_sem, HR.out.1]) rfl ?_
        exact ⟨_, rfl, by rw [HR.out.2]; exact OwnInts.nil _ _ _, hbb⟩
      have n2 : decide (t < x.lo) = false := by simpa using c1
      by_cases c2 : x.hi < t
      · have n3 : decide (x.hi < t) = true := by simpa using c2
        have HR := Lib.hid (exE_3 (times := ts) (s := S.sh) (l := l) HE.out (by rw [HL.out, HTL.out]) (i := k) (by rw [HTL.out]; exact hlt) (by rw [HX.out]; simp; omega))
        clear c1 c2
        go_wp2_with fail
        refine bodyPost_ret (v := .tuple #[.slice none 0 0, .int .i64 (exE S.sh l ts)]) (by simp [results, Tryz.results20, go_sem, HR.out.1]) rfl ?_
        exact ⟨_, rfl, by rw [HR.out.2]; exact OwnInts.nil _ _ _, hbb⟩
      have n3 : decide (x.hi < t) = false := by simpa using c2
      have HN : Hid (∀ j, j < k + 1 → exB l ts j = true) := Lib.hid fun j hj => by
        by_cases e : j = k
        · subst e; rw [HX.out]; simp; omega
        · exact HA.out j (by omega)
      clear c1 c2
      go_wp2_with fail
      go_round
      case rel => exact ⟨k + 1, by go_num, by omega, HN⟩
      case measure => simp [intOf]; omega
    · obtain rfl : tn = k := by omega
      have HR := Lib.hid (exE_4 (times := ts) (s := S.sh) (l := l) HE.out (by rw [HL.out, HTL.out]) (fun i hi => HA.out i (by rw [HTL.out] at hi; exact hi)))
      clear HA
      obtain ⟨d0, d1, d2, d3, d4, d5⟩ := (hx1.below (al0 w1 (tA [0, 0, 0, 0, 0, 0, 0, 0]) 87)).g6
      have hxt := Box.new w1 (tA [0, 0, 0, 0, 0, 0, 0, 0]) 87
      have hal := al0 w1 (tA [0, 0, 0, 0, 0, 0, 0, 0]) 87
      obtain ⟨PS, hPS⟩ : ∃ PS : Nat, S.sh.ps = (PS : Int) := ⟨S.sh.ps.toNat, by omega⟩
      obtain ⟨CS, hCS⟩ : ∃ CS : Nat, S.sh.cs = (CS : Int) := ⟨S.sh.cs.toNat, by omega⟩
      have HPS := Lib.hid hPS
      have HCS := Lib.hid hCS
      have hp8 : PS ≤ 8 := by omega
      have hc8 : CS ≤ 8 := by omega
      rw [hPS] at d1
      have HX1 := Lib.hid hx1
      have HBB := Lib.hid hbb
      have HXT := Lib.hid hxt
      clear hx1 hbb hxt hPS hCS k1 k2 k3 k4
      simp only [tA, List.map_cons, List.map_nil] at d0 d1 d2 d3 d4 d5 hal
      go_wp2_with fail
      have HT0 : Hid (exTo S.sh l ts 8 0 = [0, 0, 0, 0, 0, 0, 0, 0]) := Lib.hid rfl
      clear d0 d1 d2 d3 d4 d5
      go_loopw [58] (fun i wr => ∃ p : Nat, i = .int .i64 p ∧ p ≤ PS ∧ Box wr w1.heap.size (tA (exTo S.sh l ts 8 p)) 87 ∧ Below w1.heap.size w1 wr) (fun i _ => PS - (intOf i).toNat)
      case atStart => exact ⟨0, rfl, by omega, by rw [HT0.out]; exact HXT.out, hal⟩
      case round =>
        clear hal
        obtain ⟨p, rfl, hp, hxt, hB⟩ := hrel
        have p0 : (0 : Int) ≤ (p : Int) := by omega
        have HT8 := Lib.hid (exTo_len S.sh l ts 8 p)
        by_cases hpP : p < PS
        rotate_left
        · obtain rfl : PS = p := by omega
          have HXr := Lib.hid (HX1.out.below hB)
          obtain ⟨d0, d1, d2, d3, d4, d5⟩ := HXr.out.g6
          rw [HCS.out] at d0
          have y1 : (0 : Int) ≤ (CS : Int) := by omega
          have y2 : (CS : Int) ≤ 8 := by omega
          have hcl := Lib.hid (clone_any _ 0 CS 8 _ wr (box_take8 hxt HT8.out hc8) (by omega))
          have HRES : Hid ((exTo S.sh l ts 8 PS).take CS = exR S.sh l ts) := Lib.hid (by
            have h1 := exTo_pad HOK.out.rs (C := CS) (by rw [HCS.out]; exact Int.le_refl _) ts (8 - CS) PS
            rw [show CS + (8 - CS) = 8 by omega] at h1
            rw [HR.out.2, h1, HPS.out, HCS.out, Int.toNat_natCast, Int.toNat_natCast]
            exact List.take_left' (exTo_len _ _ _ _ _))
          rw [HRES.out] at hcl
          have HBr := Lib.hid (HBB.out.on hB)
          have hsz := hB.size
          clear hxt hB
          go_wp2_with fail
          refine hcl.out.mono ?_
          rintro e w2 ⟨v2, rfl, hO2, hB2⟩
          have hszW := HBr.out.size
          go_wp2_with fail
          refine bodyPost_ret (v := .tuple #[v2, .int .i64 (exE S.sh l ts)]) (by simp [results, Tryz.results20, go_sem, HR.out.1]) rfl ?_
          exact ⟨v2, rfl, hO2.mono hszW, HBr.out.on hB2⟩
        have p1 : (p : Int) < (PS : Int) := by omega
        obtain ⟨wa, rfl⟩ : ∃ wa, wa = wr := ⟨_, rfl⟩
        have hBw := HBB.out.on hB
        have HCN := Lib.hid (counted_any al tn cl l (p : Int) wa (h0.below hBw) (by omega) (fun x hx => by
          have h1 := okRs_iv (List.all_eq_true.1 HOK.out.rs x hx)
          have h2 := HCS.out
          omega))
        have HXT2 := Lib.hid hxt
        have HBr := Lib.hid hB
        have hsz := hB.size
        have hszt := hxt.lt
        clear hxt hB hBw HXT HT0
        go_wp2_with fail
        refine HCN.out.mono ?_
        rintro e w2 ⟨v2, rfl, hO2, hB2⟩
        obtain ⟨oa, oc, rfl, hI2⟩ := hO2.ints
        have HCM := Lib.hid (fun x (hx : x ∈ cntL l p) => cntL_mem hx)
        have HCL := Lib.hid (cnt_len HOK.out.rs (C := CS) (by rw [HCS.out]; exact Int.le_refl _) (p : Int))
        have HEX : Hid (exTo S.sh l ts 8 (p + 1) = addT S.sh l p (placesL (exOwn ts (cntL l p))) (exTo S.sh l ts 8 p)) := Lib.hid rfl
        have HADD : Hid (∀ pl t, addTo S.sh l p (cntL l p) pl (cntL l p).length t = addT S.sh l p pl t) := Lib.hid (fun _ _ => rfl)
        obtain ⟨Cl, hCl⟩ : ∃ Cl, cntL l p = Cl := ⟨_, rfl⟩
        rw [hCl] at hI2 HCM HCL HEX HADD ⊢
        obtain ⟨on, hon⟩ : ∃ on, Cl.length = on := ⟨_, rfl⟩
        rw [hon] at hI2 HCL HADD ⊢
        have hon8 : on ≤ 8 := by have := HCL.out; omega
        have HON := Lib.hid hon
        have HB2 := Lib.hid hB2
        have HI2 := Lib.hid hI2
        obtain ⟨T, hT2⟩ : ∃ T, exOwn ts Cl = T := ⟨_, rfl⟩
        have HTD := Lib.hid hT2
        have HTN : Hid (T.length = on) := Lib.hid (by rw [← hT2, exOwn_len, hon])
        rw [hT2] at HEX
        clear hO2 hB2 hI2 hCl hon hT2 HCN
        have hmk := fun w => make_tA on (by omega) w
        have hsz2 := HB2.out.size
        go_wp2_with fail
        go_loopw [69] (fun i wr2 => ∃ q : Nat, i = .int .i64 q ∧ q ≤ on ∧ Box wr2 w2.heap.size (tA (plFill T q)) 3 ∧ Below w2.heap.size w2 wr2) (fun i _ => on - (intOf i).toNat)
        case atStart => exact ⟨0, rfl, by omega, by rw [plFill_0, HTN.out]; exact Box.new _ _ _, al0 _ _ _⟩
        case round =>
          obtain ⟨q, rfl, hq, hxp, hB4⟩ := hrel
          have q0 : (0 : Int) ≤ (q : Int) := by omega
          have hBr4 := (HBr.out.on HB2.out).on hB4
          have hBB4 := HBB.out.on hBr4
          by_cases hqo : q < on
          rotate_left
          · obtain rfl : on = q := by omega
            have HPL : Hid (plFill T on = placesL T) := Lib.hid (by rw [← HTN.out]; exact plFill_all T)
            rw [HPL.out] at hxp
            have hpln : (placesL T).length = on := by rw [← HTN.out]; simp [placesL]
            have hQ := box_ints hxp hpln (by omega)
            have hI := HI2.out.below hB4
            have hxt2 := HXT2.out.below (HB2.out.on hB4)
            have hbt : BdT 1000000000000 (exTo S.sh l ts 8 p) := (exTo_bd HOK.out.rs (C := 8) (by have := HCS.out; omega) ts 8 p).mono (by omega)
            have hpb : ∀ x ∈ placesL T, 0 ≤ x ∧ x ≤ 1048576 := fun x hx => by
              obtain ⟨y, _, rfl⟩ := List.mem_map.1 hx
              have := List.length_filter_le (fun z => decide (z < y)) T
              have h2 := HTN.out
              unfold lessN
              omega
            have hAD := add_any S al tn cl l p oa on oc Cl (some ⟨w2.heap.size, 0, none⟩) on (placesL T) (exTo S.sh l ts 8 p) wr (hS.below hBB4) (h0.below hBB4) hI hQ HOK.out (by rw [HPS.out]; exact p1) (fun i hi => ⟨(HCM.out i hi).1, (HCM.out i hi).2.1⟩) hpb (by omega) HT8.out hbt (ht.below hBB4)
            rw [HADD.out, ← HEX.out] at hAD
            obtain ⟨b0, b1, b2, b3, b4, b5, b6, b7, hb8⟩ := len8 (exTo_len S.sh l ts 8 (p + 1))
            obtain ⟨a0, a1, a2, a3, a4, a5, a6, a7, ha8⟩ := len8 HT8.out
            rw [ha8] at hAD hxt2
            rw [hb8] at hAD
            have HB8 := Lib.hid hb8
            have HAD := Lib.hid hAD
            obtain ⟨c0, c1, c2, c3, c4, c5, c6, c7⟩ := hxt2.g8
            obtain ⟨d0, d1, d2, d3, d4, d5⟩ := (HX1.out.below hBr4).g6
            have HXT3 := Lib.hid hxt2
            have HBr4 := Lib.hid hBr4
            clear hAD hxt2 hb8 ha8 hI hQ hxp hpln hbt hpb HEX HADD hBr4 hBB4 hB4
            simp only [tV, tA, List.map_cons, List.map_nil] at HAD
            go_wp2_with fail
            refine HAD.out.mono ?_
            rintro e w3 ⟨rfl, hB3⟩
            have hxt3 := HXT3.out.below hB3
            clear c0 c1 c2 c3 c4 c5 c6 c7 d0 d1 d2 d3 d4 d5 HAD
            obtain ⟨c0, c1, c2, c3, c4, c5, c6, c7⟩ := hxt3.g8
            have f0 := hxt3.frozen 0
            have f1 := hxt3.frozen 1
            have f2 := hxt3.frozen 2
            have f3 := hxt3.frozen 3
            have f4 := hxt3.frozen 4
            have f5 := hxt3.frozen 5
            have f6 := hxt3.frozen 6
            have f7 := hxt3.frozen 7
            have l8 := hxt3.lt
            have HXN := Lib.hid (hxt3.set8 b0 b1 b2 b3 b4 b5 b6 b7)
            have HBN := Lib.hid (below_set8 (HBr4.out.on hB3) (B := w1.heap.size) (Nat.le_refl _) b0 b1 b2 b3 b4 b5 b6 b7)
            clear hxt3 hB3
            go_wp2_with fail
            go_roundw
            case rel => exact ⟨p + 1, by go_num, by omega, by rw [HB8.out]; exact HXN.out, HBN.out⟩
            case measure => simp [intOf]; omega
          obtain ⟨ob, oo, rfl, hob⟩ := HI2.out.at' (by omega)
          have hI4 := HI2.out.below hB4
          obtain ⟨xa, hxa⟩ := hI4.has hqo
          have ea := hI4.get hxa
          have mO := hI4.mx
          have cO := hI4.cap
          unfold maxLen at mO
          obtain ⟨na0, na1, -⟩ := HCM.out xa (List.mem_of_getElem? hxa)
          rw [HL.out] at na1
          obtain ⟨na, rfl⟩ : ∃ na : Nat, xa = (na : Int) := ⟨xa.toNat, by omega⟩
          have hna : na < tn := by omega
          obtain ⟨tb, to, rfl, htb⟩ := hT.at' (by omega)
          obtain ⟨ya, hya⟩ := hT.has hna
          have HTA : Hid (T[q]? = some ya) := Lib.hid (by rw [← HTD.out, exOwn_get hxa, Int.toNat_natCast, List.getD_eq_getElem?_getD, hya]; rfl)
          have q1 : (q : Int) < (on : Int) := by omega
          have hpl := plFill_len T q (by rw [HTN.out]; omega)
          rw [HTN.out] at hpl
          have cq : wr.cell? ⟨w2.heap.size, q, none⟩ = some (.int .i64 ((plFill T q).getD q 0)) := by rw [hxp.cell q, tA_get (by omega)]
          have fq := hxp.frozen q
          have lq := hxp.lt
          have hx1p := hxp.set q (.int .i64 1)
          rw [tA_set] at hx1p
          have HX1P := Lib.hid hx1p
          have HB5 : Hid (Below w2.heap.size w2 (wr.setCell ⟨w2.heap.size, q, none⟩ (.int .i64 1))) := Lib.hid (hB4.setCell (Nat.le_refl _) _)
          have HPN := Lib.hid hpl
          have HYA := Lib.hid hya
          clear hxa hya hx1p hxp hpl hI4
          go_wp2_with fail
          go_loopw [79] (fun i wr2 => ∃ j : Nat, i = .int .i64 j ∧ j ≤ on ∧ Box wr2 w2.heap.size (tA ((plFill T q).set q (plTo T ya j))) 3 ∧ Below w2.heap.size w2 wr2) (fun i _ => on - (intOf i).toNat)
          case atStart => exact ⟨0, rfl, by omega, by rw [plTo_0]; exact HX1P.out, HB5.out⟩
          case round =>
            clear ea cq fq lq
            obtain ⟨j, rfl, hj, hxp, hB6⟩ := hrel
            have j0 : (0 : Int) ≤ (j : Int) := by omega
            by_cases hjo : j < on
            rotate_left
            · obtain rfl : on = j := by omega
              have HNX : Hid ((plFill T q).set q (plTo T ya on) = plFill T (q + 1)) := Lib.hid (by rw [plFill_step HTA.out, HTN.out])
              rw [HNX.out] at hxp
              have HXP := Lib.hid hxp
              have HB6 := Lib.hid hB6
              clear hxp hB6
              go_wp2_with fail
              go_roundw
              case rel => exact ⟨q + 1, by go_num, by omega, HXP.out, HB6.out⟩
              case measure => simp [intOf]; omega
            have j1 : (j : Int) < (on : Int) := by omega
            have hI6 := HI2.out.below hB6
            obtain ⟨xb, hxb⟩ := hI6.has hjo
            have eb := hI6.get hxb
            obtain ⟨nb0, nb1, -⟩ := HCM.out xb (List.mem_of_getElem? hxb)
            rw [HL.out] at nb1
            obtain ⟨nb, rfl⟩ : ∃ nb : Nat, xb = (nb : Int) := ⟨xb.toNat, by omega⟩
            have hnb : nb < tn := by omega
            obtain ⟨yb, hyb⟩ := hT.has hnb
            have hBt := HBB.out.on ((HBr.out.on HB2.out).on hB6)
            have etb := (hT.below hBt).get hyb
            have eta := (hT.below hBt).get HYA.out
            have HTB : Hid (T[j]? = some yb) := Lib.hid (by rw [← HTD.out, exOwn_get hxb, Int.toNat_natCast, List.getD_eq_getElem?_getD, hyb]; rfl)
            have HST := Lib.hid (plTo_step (x := ya) HTB.out)
            have hbd := plTo_bd T ya j
            obtain ⟨P, hP⟩ : ∃ P, plTo T ya j = P := ⟨_, rfl⟩
            rw [hP] at hxp hbd HST
            have cq : wr.cell? ⟨w2.heap.size, q, none⟩ = some (.int .i64 P) := by
              rw [hxp.cell q, tA_get (by rw [List.length_set, HPN.out]; omega), List.getD_eq_getElem?_getD, List.getElem?_set_self (by rw [HPN.out]; omega)]; rfl
            have HXP := Lib.hid hxp
            have HB6 := Lib.hid hB6
            clear hxp hB6 hI6 hxb hyb hBt hP
            by_cases hlt2 : yb < ya
            · have n4 : decide (yb < ya) = true := by simpa using hlt2
              rw [if_pos hlt2] at HST
              clear hlt2
              go_wp2_with fail
              go_quiet (fail)
              obtain ⟨w5, hw5⟩ : ∃ w5, wr.drewN nq = w5 := ⟨_, rfl⟩
              have hb5 : Below wr.heap.size wr w5 := by rw [← hw5]; exact Below.drewN0 _ _
              rw [hw5]
              clear hw5
              have hxp := HXP.out.below hb5
              have cq5 := (hb5.cell (World.block_lt_of_cell? wr _ cq)).trans cq
              have fq5 := hxp.frozen q
              have lq5 := hxp.lt
              have hxn := hxp.set q (.int .i64 (P + 1))
              rw [tA_set, List.set_set] at hxn
              have HXN := Lib.hid hxn
              have HBn := Lib.hid ((HB6.out.on hb5).setCell (p := ⟨w2.heap.size, q, none⟩) (Nat.le_refl _) (.int .i64 (P + 1)))
              have hwr : IntKind.i64.wrap (P + 1) = P + 1 := by rw [IntKind.wrap_i64]; omega
              clear hxp hxn hb5 cq eb etb eta
              go_wp2_with fail
              go_roundw
              case rel => exact ⟨j + 1, by go_num, by omega, by rw [HST.out]; exact HXN.out, HBn.out⟩
              case measure => simp [intOf]; omega
            · have n4 : decide (yb < ya) = false := by simpa using hlt2
              rw [if_neg hlt2] at HST
              clear hlt2
              go_wp2_with (go_quiet (fail))
              go_roundw
              case rel => exact ⟨j + 1, by go_num, by omega, by rw [HST.out]; exact HXP.out.below (Below.drewN0 _ _), below_drewN HB6.out _⟩
              case measure => simp [intOf]; omega
end Go.Proofs.YtehoidohallfcaaGreatDoor

