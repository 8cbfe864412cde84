/- The place map at the operation, for the fenced walk. -/
import Derived.Test.YtjiacdihfbbfjaaPm
import Derived.Maps.OwnIn
namespace Go.Proofs.Ytjiacdihfbbfjaa
open Go.RowKit

section
variable {F : Fence} {nF : Nat} (w : World) {ops : Array Oper} {rest : List Oper} {o : Oper} {a : Act} {Q : Exit → Act → World → Prop}
theorem wpListIn_pmap_put (hg : o.guard = none) (m x v : Operand) (hop : o.op = Op.mapUpdate 101 m x v) (b : Nat) (l : List ((Int × Int) × Int)) (hm : a.eval m = .map (some b)) (h : PMap w b l)
    (k : Int × Int) (i : Int) (hx : a.eval x = pv k) (hv : a.eval v = .int .i64 i) (hk : small64 k) (hn : ∀ x ∈ l, x.1 ≠ k)
    (hK : ∀ w', PMap w' b (l ++ [(k, i)]) → w.grownBy w' (some b) → w'.heap.size = w.heap.size → wpListIn F nF Try.prog ops Q rest (a.put o.dst undef) w') :
    wpListIn F nF Try.prog ops Q (o :: rest) a w := by
  refine wpListIn_plain hg fun K' hK' => ?_
  obtain ⟨w', hrun, r1, r2, r3⟩ := h.put k i hk hn
  unfold Oper.wpIn
  refine ⟨by simp [Oper.about, hop], ?_⟩
  rw [Oper.semAt_plain F _ _ (by rw [hop]; intro c hc'; cases hc')]
  simp [execOp, hop, hm, hx, hv, hrun, Result.andThen]
  exact hK' _ _ (hK w' r1 r2 r3)
theorem wpListIn_pmap_look (hg : o.guard = none) (m x : Operand) (hop : o.op = Op.lookup 101 m x true) (b : Nat) (l : List ((Int × Int) × Int)) (hm : a.eval m = .map (some b)) (h : PMap w b l)
    (k : Int × Int) (hx : a.eval x = pv k) (hk : small64 k)
    (hK : wpListIn F nF Try.prog ops Q rest (a.put o.dst (.tuple #[.int .i64 ((lookP l k).getD 0), .bool (lookP l k).isSome])) w) :
    wpListIn F nF Try.prog ops Q (o :: rest) a w := by
  refine wpListIn_plain hg fun K' hK' => ?_
  have hrun := h.look k hk
  unfold Oper.wpIn
  refine ⟨by simp [Oper.about, hop], ?_⟩
  rw [Oper.semAt_plain F _ _ (by rw [hop]; intro c hc'; cases hc')]
  simp [execOp, hop, hm, hx, hrun, Result.andThen]
  exact hK' _ _ hK
end
end Go.Proofs.Ytjiacdihfbbfjaa
