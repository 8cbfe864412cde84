/- Maps keyed by totals. -/
import Derived.Test.YtehoidohallfcaaGreatDoorBMap
import Derived.Test.YtehoidohallfcaaGreatDoorAddA
namespace Go.Proofs.YtehoidohallfcaaGreatDoor
open Go.RowKit

theorem tk_sz : Tryz.prog.types.size = 762 := by kernel_rfl
theorem tk_g : Tryz.prog.globals.all (fun g => decide (g.type < Tryz.prog.types.size)) = true := by kernel_rfl
theorem tk_f : Tryz.prog.funcs.all (fun f => f.params.all fun t => decide (t < Tryz.prog.types.size)) = true := by kernel_rfl
theorem tk_r0 : (List.range' 0 150).all (rowFine Tryz.prog) = true := by kernel_rfl
theorem tk_r1 : (List.range' 150 150).all (rowFine Tryz.prog) = true := by kernel_rfl
theorem tk_r2 : (List.range' 300 150).all (rowFine Tryz.prog) = true := by kernel_rfl
theorem tk_r3 : (List.range' 450 150).all (rowFine Tryz.prog) = true := by kernel_rfl
theorem tk_r4 : (List.range' 600 162).all (rowFine Tryz.prog) = true := by kernel_rfl
theorem tk_at' {a n i : Nat} (h : (List.range' a n).all (rowFine Tryz.prog) = true) (h1 : a ≤ i) (h2 : i < a + n) : rowFine Tryz.prog i = true := List.all_eq_true.1 h i (List.mem_range'_1.2 ⟨h1, h2⟩)
theorem tk_laid : laidOutB Tryz.prog = true := by
  have h1 : (List.range Tryz.prog.types.size).all (rowFine Tryz.prog) = true := by
    rw [tk_sz, List.all_eq_true]
    intro i hi
    have hi := List.mem_range.1 hi
    rcases Nat.lt_or_ge i 150 with h | h
    · exact tk_at' tk_r0 (by omega) (by omega)
    rcases Nat.lt_or_ge i 300 with h | h
    · exact tk_at' tk_r1 (by omega) (by omega)
    rcases Nat.lt_or_ge i 450 with h | h
    · exact tk_at' tk_r2 (by omega) (by omega)
    rcases Nat.lt_or_ge i 600 with h | h
    · exact tk_at' tk_r3 (by omega) (by omega)
    · exact tk_at' tk_r4 (by omega) (by omega)
  unfold laidOutB
  rw [h1, tk_g, tk_f]; rfl
theorem tk_row : (87 : TypeId) < Tryz.prog.types.size := of_decide_eq_true (by kernel_rfl)
theorem tk_at : Tryz.prog.keyTypeAt 2 87 = true := by kernel_rfl
theorem tk_law : Maps.Keyed Tryz.prog 87 := by
  refine Maps.Keyed.of_law (deep_law_laid tk_laid (m := 2) (by omega) tk_row tk_at ?_)
  have h := Tryz.underlying87
  revert h
  generalize Tryz.prog.underlying 87 = x
  rintro rfl
  rfl
theorem tk_type : Tryz.prog.keyType 87 = true := by kernel_rfl
theorem tk_cells : Tryz.prog.cellsOf 87 = 8 := by kernel_rfl
theorem tk_one : Tryz.prog.cellsOf 3 = 1 := by kernel_rfl
theorem tk_lits (d : Nat) (x : Int) (h : (Lit.int .i64 x).wf = true) : Tryz.prog.keyLits (d + 1) 3 [.int .i64 x] = some [.int .i64 x] := by
  unfold Program.keyLits
  rw [Tryz.underlying3]
  simp [h]
theorem mapM_some {α β : Type} {f : α → Option β} {g : α → β} : ∀ {l : List α}, (∀ x ∈ l, f x = some (g x)) → l.mapM f = some (l.map g)
  | [], _ => rfl
  | x :: l, h => by
    rw [List.mapM_cons, h x (List.mem_cons_self ..), mapM_some (fun y hy => h y (List.mem_cons_of_mem _ hy))]; rfl
theorem flat_one {α β : Type} (g : α → β) : ∀ l : List α, (l.map fun x => [g x]).flatten = l.map g
  | [] => rfl
  | x :: l => by rw [List.map_cons, List.flatten_cons, flat_one g l]; rfl
/-- Totals as keys. -/
def okT (t : List Int) : Prop := t.length = 8 ∧ ∀ x ∈ t, (Lit.int .i64 x).wf = true
def litsT (t : List Int) : List Lit := (List.range 8).map fun i => .int .i64 (t.getD i 0)
def litT (t : List Int) : Lit := .string (keyBytes (litsT t))
theorem tA_len (t : List Int) : (tA t).toList.length = t.length := by unfold tA; simp
theorem okT.wf {t : List Int} (h : okT t) (i : Nat) : (Lit.int .i64 (t.getD i 0)).wf = true := by
  rw [List.getD_eq_getElem?_getD]
  cases e : t[i]? with
  | none => rfl
  | some x => exact h.2 x (List.mem_of_getElem? e)
theorem tk_lits8 (d : Nat) (t : List Int) (h : okT t) : Tryz.prog.keyLits (d + 1 + 1) 87 (tA t).toList = some (litsT t) := by
  unfold Program.keyLits
  rw [Tryz.underlying87]
  simp only [tk_cells, tk_one, tA_len, h.1, if_true]
  rw [mapM_some (g := fun i => [Lit.int .i64 (t.getD i 0)])]
  · rw [Option.map_some, flat_one]; rfl
  · intro i hi
    have hi' := List.mem_range.1 hi
    have e : ((tA t).toList.drop (i * 1)).take 1 = [Value.int .i64 (t.getD i 0)] := by
      have hl : i < (tA t).toList.length := by rw [tA_len, h.1]; exact hi'
      rw [Nat.mul_one, List.drop_eq_getElem_cons hl]
      simp only [List.take_succ_cons, List.take_zero, List.cons.injEq, and_true]
      have h2 := tA_get (t := t) (i := i) (by rw [h.1]; exact hi')
      rw [← Array.getElem?_toList, List.getElem?_eq_getElem hl] at h2
      injection h2
    rw [e]
    exact tk_lits d _ (h.wf i)
theorem tk_size : Tryz.prog.types.size + 1 = (Tryz.prog.types.size - 1) + 1 + 1 := by
  have h : (Nat.lt 87 Tryz.prog.types.size) := tk_row
  generalize Tryz.prog.types.size = z at h
  simp only [Nat.lt_eq] at h
  omega
theorem tk_key (t : List Int) (h : okT t) : keyOf Tryz.prog 87 (tV t) = some (litT t) := by
  unfold keyOf
  rw [Tryz.underlying87]
  have hf : (tV t).formed Tryz.prog 87 = true := by
    have hs : (tA t).size = 8 := by have := tA_len t; rw [h.1] at this; simpa using this
    simp [tV, Value.formed, Tryz.underlying87, tk_cells, hs]
  simp only [tk_type, hf, Bool.and_self, if_true]
  rw [tk_size]
  show (Tryz.prog.keyLits _ 87 (tA t).toList).map _ = _
  rw [tk_lits8 _ t h]
  rfl
theorem tV_inj {x y : List Int} (h : tV x = tV y) : x = y := by
  unfold tV tA at h
  injection h with h
  have h2 : x.map (Value.int .i64) = y.map (Value.int .i64) := by simpa using congrArg Array.toList h
  exact List.map_inj_right (fun a b e => by simpa using e) |>.1 h2
theorem tot_key : KeyL 87 163 tV litT okT where
  law := tk_law
  und := Tryz.underlying163
  key := tk_key
  inj := fun _x _y _ _ h => tV_inj h
abbrev TMap (w : World) (b : Nat) (ks : List (List Int)) : Prop := BMap tV okT w b ks
theorem okT_of {t : List Int} (h : t.length = 8) (hb : BdT 1000000000000 t) : okT t := ⟨h, fun x hx => WalkArith.wf_i64 (by have := hb x hx; omega)⟩
end Go.Proofs.YtehoidohallfcaaGreatDoor
