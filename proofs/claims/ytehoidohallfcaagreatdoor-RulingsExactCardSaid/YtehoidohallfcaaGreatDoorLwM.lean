/- What the laws of chapter 54 say, in plain words. -/
import Derived.Test.YtehoidohallfcaaGreatDoorRuG
namespace Go.Proofs.YtehoidohallfcaaGreatDoor

/-- Where no fault begins nothing changes. -/
theorem later_same {s : Sh} {l : List Rs} {fs : List (Ft Value)} {d e : Int} (h : d ≤ e) (h1 : ruE s l fs d = 0) (hb : fs.any (begB d e) = false) : resL fs d l = resL fs e l := by
  refine resL_none h ?_ hb l
  unfold ruE at h1
  split at h1
  · rename_i h2; exact absurd h1 h2
  · split at h1
    · cases h1
    · split at h1
      · split at h1
        · rename_i h3
          unfold okDay at h3
          simp only [Bool.and_eq_true, decide_eq_true_eq] at h3
          omega
        · cases h1
      · cases h1
theorem later_ch {s : Sh} {l : List Rs} {fs : List (Ft Value)} {d e : Int} (h : d ≤ e) (h1 : ruE s l fs d = 0) (h2 : ruE s l fs e = 0) (hb : fs.any (begB d e) = false) : chR s l fs d e = [] := by
  unfold chR
  split
  · rfl
  · have he := later_same h h1 hb
    have hr : agR s l fs d = agR s l fs e := by
      unfold agR
      rw [if_neg (fun x => x h1), if_neg (fun x => x h2), he]
    unfold cgTo
    rw [hr, List.map_eq_nil_iff, List.filter_eq_nil_iff]
    intro i _
    unfold cgB; simp
theorem later_again {s : Sh} {l : List Rs} {fs : List (Ft Value)} {d e : Int} (h : d ≤ e) (h2 : ruE s l fs e = 0) : ruE s (resL fs d l) fs e = 0 ∧ ruR s (resL fs d l) fs e = resL fs e l ∧ ruR s l fs e = resL fs e l := by
  have e1 : ruE s (resL fs d l) fs e = ruE s l fs e := by unfold ruE; rw [resL_E]
  refine ⟨by rw [e1, h2], ?_, ?_⟩
  · unfold ruR; rw [if_neg (fun x => x (by rw [e1, h2])), resL_later h]
  · unfold ruR; rw [if_neg (fun x => x h2)]
theorem ruR_0 {s : Sh} {l : List Rs} {fs : List (Ft Value)} {d : Int} (h : ruE s l fs d = 0) : ruR s l fs d = resL fs d l := by unfold ruR; rw [if_neg (fun x => x h)]
theorem resL_get {fs : List (Ft Value)} {d : Int} {l : List Rs} {k : Nat} {x : Rs} (h : l[k]? = some x) : (resL fs d l)[k]? = some { x with rt := x.rt && !fltB fs x.pz d } := by
  unfold resL; rw [List.getElem?_map, h]; rfl
/-- Nothing becomes right. -/
theorem later_right {fs : List (Ft Value)} {d e : Int} (h : d ≤ e) (x : Rs) : ((x.rt && !fltB fs x.pz e) && !(x.rt && !fltB fs x.pz d)) = false ∧ ((x.rt && !fltB fs x.pz d) && !x.rt) = false := by
  cases h1 : x.rt
  · simp
  · cases h2 : fltB fs x.pz d
    · simp
    · simp [flt_later h h2]
end Go.Proofs.YtehoidohallfcaaGreatDoor
