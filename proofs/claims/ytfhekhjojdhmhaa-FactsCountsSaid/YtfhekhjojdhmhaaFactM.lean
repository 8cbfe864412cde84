/- Facts in plain Lean: what the functions of facts compute. -/
import Derived.Test.YtfhekhjojdhmhaaSt
namespace Go.Proofs.Ytfhekhjojdhmhaa
open Go.RowKit

structure Key where
  kd : Int
  sb : Int
  ob : Int
structure Fact where
  kd : Int
  sb : Int
  ob : Int
  val : Int
  vf : Int
  vt : Int
  kn : Int
  no : Int
def Fact.key (f : Fact) : Key := ⟨f.kd, f.sb, f.ob⟩
def sameK (a b : Key) : Bool := decide (a.kd = b.kd ∧ a.sb = b.sb ∧ a.ob = b.ob)
theorem sameK_iff (a b : Key) : sameK a b = true ↔ a = b := by
  cases a; cases b; simp [sameK]
instance : DecidableEq Key := fun a b => decidable_of_iff _ (sameK_iff a b)
theorem sameK_eq (a b : Key) : sameK a b = decide (a = b) := by rw [Bool.eq_iff_iff, sameK_iff]; simp
def sameF (a b : Fact) : Bool := decide (a.kd = b.kd ∧ a.sb = b.sb ∧ a.ob = b.ob ∧ a.val = b.val ∧ a.vf = b.vf ∧ a.vt = b.vt ∧ a.kn = b.kn ∧ a.no = b.no)
theorem sameF_iff (a b : Fact) : sameF a b = true ↔ a = b := by
  cases a; cases b; simp [sameF]
instance : DecidableEq Fact := fun a b => decidable_of_iff _ (sameF_iff a b)
theorem sameF_eq (a b : Fact) : sameF a b = decide (a = b) := by rw [Bool.eq_iff_iff, sameF_iff]; simp

abbrev iv (x : Int) : Value := .int .i64 x
def encK (k : Key) : List Value := [iv k.kd, iv k.sb, iv k.ob]
def encF (f : Fact) : List Value := [iv f.kd, iv f.sb, iv f.ob, iv f.val, iv f.vf, iv f.vt, iv f.kn, iv f.no]
abbrev keyV (k : Key) : Value := .agg #[.int .i64 k.kd, .int .i64 k.sb, .int .i64 k.ob]
abbrev factV (f : Fact) : Value := .agg #[.int .i64 f.kd, .int .i64 f.sb, .int .i64 f.ob, .int .i64 f.val, .int .i64 f.vf, .int .i64 f.vt, .int .i64 f.kn, .int .i64 f.no]
theorem encF_len (f : Fact) : (encF f).length = 8 := rfl
theorem encK_len (f : Key) : (encK f).length = 3 := rfl

/-- The fact's order. -/
def befB (a b : Fact) : Bool := decide (a.kn < b.kn ∨ (a.kn = b.kn ∧ a.no < b.no))
def cmpI (a b : Int) : Int := if a < b then -1 else if b < a then 1 else 0
/-- What compare returns. -/
def cmpF (a b : Fact) : Int := if cmpI a.kn b.kn ≠ 0 then cmpI a.kn b.kn else cmpI a.no b.no
theorem cmpF_geq (a b : Fact) : decide (cmpF a b ≥ 0) = !befB a b := by
  unfold cmpF cmpI befB
  rw [Bool.eq_iff_iff]; simp only [decide_eq_true_eq, Bool.not_eq_true', decide_eq_false_iff_not]
  repeat' split
  all_goals omega
/-- The order of keys. -/
def lessK (a b : Key) : Bool := decide (a.kd < b.kd ∨ (a.kd = b.kd ∧ (a.sb < b.sb ∨ (a.sb = b.sb ∧ a.ob < b.ob))))
def validB (f : Fact) : Bool :=
  decide (0 ≤ f.kd) && decide (f.kd ≤ 15) && decide (0 ≤ f.sb) && decide (f.sb ≤ 4095) && decide (0 ≤ f.ob) && decide (f.ob ≤ 1023) && decide (-1 ≤ f.val) && decide (f.val ≤ 1048576) && decide (0 ≤ f.vf) && decide (f.vf < f.vt) && decide (f.vt ≤ 1024) && decide (1 ≤ f.kn) && decide (f.kn ≤ 16777216) && decide (0 ≤ f.no) && decide (f.no ≤ 65535)

/-- The order's check: each one after the one ahead of it. -/
def ordB : List Fact → Bool
  | [] => true
  | [_] => true
  | a :: b :: l => befB a b && ordB (b :: l)
/-- The code that Check returns. -/
def checkF (l : List Fact) : Int := if l.all validB then (if ordB l then 0 else 41) else 40
/-- What Add returns. -/
def addErr (l : List Fact) (f : Fact) : Int :=
  if checkF l ≠ 0 then checkF l else if !validB f then 40 else match l.getLast? with
    | none => 0
    | some x => if befB x f then 0 else 41
def addL (l : List Fact) (f : Fact) : List Fact := if addErr l f = 0 then l ++ [f] else []

/-- A fact that counts for a key at a time. -/
def ofB (k : Key) (known : Int) (f : Fact) : Bool := decide (f.key = k) && decide (f.kn ≤ known)
def onB (day : Int) (f : Fact) : Bool := decide (f.vf ≤ day) && decide (day < f.vt)
def ofL (l : List Fact) (k : Key) (known : Int) : List Fact := l.filter (ofB k known)
/-- The last one by the order; of equals the later. -/
def bestStep (b : Option Fact) (f : Fact) : Option Fact := match b with
  | none => some f
  | some x => if befB f x then some x else some f
def bestF (l : List Fact) : Option Fact := l.foldl bestStep none
theorem bestF_snoc (l : List Fact) (f : Fact) : bestF (l ++ [f]) = bestStep (bestF l) f := by unfold bestF; rw [List.foldl_append]; rfl
/-- The value or none. -/
def atF (l : List Fact) (k : Key) (day known : Int) : Option Int := (bestF ((ofL l k known).filter (onB day))).bind fun f => if f.val < 0 then none else some f.val
def atV (l : List Fact) (k : Key) (day known : Int) : Int := (atF l k day known).getD 0
def atOk (l : List Fact) (k : Key) (day known : Int) : Bool := (atF l k day known).isSome
/-- The days on which one asks. -/
def daysL (from' to : Int) : List Int := (List.range 1024).map Int.ofNat |>.filter fun d => decide (from' ≤ d ∧ d < to)
def pointsL (l : List Fact) (k : Key) (from' to known : Int) : List (Int × Int) := (daysL from' to).filterMap fun d => (atF l k d known).map fun v => (d, v)
def uptoL (l : List Fact) (known : Int) : List Fact := l.filter fun f => decide (f.kn ≤ known)

section
variable {w : World} {b o n c : Nat} {l : List Fact} {i : Nat} {f : Fact}
/-- The cells of one fact. -/
theorem SL.fact (h : SL encF 8 w (some ⟨b, o, none⟩) n c l) (hf : l[i]? = some f) :
    w.cell? ⟨b, o + i * 8, none⟩ = some (.int .i64 f.kd) ∧ w.cell? ⟨b, o + i * 8 + 1, none⟩ = some (.int .i64 f.sb) ∧ w.cell? ⟨b, o + i * 8 + 2, none⟩ = some (.int .i64 f.ob) ∧ w.cell? ⟨b, o + i * 8 + 3, none⟩ = some (.int .i64 f.val) ∧
    w.cell? ⟨b, o + i * 8 + 4, none⟩ = some (.int .i64 f.vf) ∧ w.cell? ⟨b, o + i * 8 + 5, none⟩ = some (.int .i64 f.vt) ∧ w.cell? ⟨b, o + i * 8 + 6, none⟩ = some (.int .i64 f.kn) ∧ w.cell? ⟨b, o + i * 8 + 7, none⟩ = some (.int .i64 f.no) :=
  ⟨h.cell _ _ rfl i f hf 0 _ rfl, h.cell _ _ rfl i f hf 1 _ rfl, h.cell _ _ rfl i f hf 2 _ rfl, h.cell _ _ rfl i f hf 3 _ rfl, h.cell _ _ rfl i f hf 4 _ rfl, h.cell _ _ rfl i f hf 5 _ rfl, h.cell _ _ rfl i f hf 6 _ rfl, h.cell _ _ rfl i f hf 7 _ rfl⟩
end
end Go.Proofs.Ytfhekhjojdhmhaa
