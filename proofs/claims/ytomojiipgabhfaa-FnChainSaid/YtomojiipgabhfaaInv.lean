/- A region that draws its order, by an invariant over what has come up: each operation is looked at once. No program in sight. -/
import Derived.Test.YtomojiipgabhfaaBase
import Derived.RegionTactic
namespace Go.Proofs.Ytomojiipgabhfaa
open Go.RowKit
set_option linter.unusedVariables false

section
variable {P : Program} {ops : Array Oper} {Q : Exit → Act → World → Prop} {md : Region.Mode}

theorem getD_of {listed : Array Bool} {j : Nat} (h : j < listed.size) (d : Bool) : listed.getD j d = listed[j] := by simp [h]
theorem ready_lt {listed : Array Bool} {i : Nat} (hi : i ∈ Region.ready md ops listed) : i < ops.size := by
  obtain ⟨_, o, ho, _⟩ := mem_ready.1 hi
  exact (Array.getElem?_eq_some_iff.1 ho).1
/-- where nothing may come up any more, all has come up. -/
theorem ready_all {listed : Array Bool} (hord : ∀ (j : Nat) (o : Oper), ops[j]? = some o → ∀ e ∈ o.after, Region.binds md e = true → e.on < j) (hsz : listed.size = ops.size) (hr : Region.ready md ops listed = []) :
    ∀ j, j < ops.size → listed.getD j false = true := by
  intro j
  induction j using Nat.strongRecOn with
  | _ j ih =>
    intro hj
    have hl : j < listed.size := by omega
    rw [getD_of hl]
    cases hb : listed[j] with
    | true => rfl
    | false =>
      exfalso
      have : j ∈ Region.ready md ops listed := mem_ready.2 ⟨by rw [getD_of hl]; exact hb, ops[j], Array.getElem?_eq_getElem hj, fun e he hbd => by
        have hlt := hord j ops[j] (Array.getElem?_eq_getElem hj) e he hbd
        exact ih e.on hlt (by omega)⟩
      rw [hr] at this
      cases this
theorem count_down {listed : Array Bool} {i : Nat} (hi : i < listed.size) (h : listed[i] = false) : (listed.setIfInBounds i true).toList.count false + 1 = listed.toList.count false := by
  rw [Array.toList_setIfInBounds]
  have hi' : i < listed.toList.length := by simpa using hi
  have h' : listed.toList[i] = false := by simpa using h
  generalize listed.toList = l at *
  clear hi h
  induction l generalizing i with
  | nil => simp at hi'
  | cons a l ih =>
    cases i with
    | zero => simp at h'; subst h'; simp
    | succ i =>
      have := ih (i := i) (by simpa using hi') (by simpa using h')
      simp only [List.set_cons_succ, List.count_cons]
      omega
/-- The rule: what holds of the state at each point is kept by each operation that may come up, and gives the post where all have come up. -/
theorem wpAny_inv (hord : ∀ (j : Nat) (o : Oper), ops[j]? = some o → ∀ e ∈ o.after, Region.binds md e = true → e.on < j) (I : Array Bool → Act → World → Prop) (hsz : ∀ listed a w, I listed a w → listed.size = ops.size)
    (hstep : ∀ listed a w i, I listed a w → i ∈ Region.ready md ops listed → wpOp P ops Q i (fun a' w' => I (listed.setIfInBounds i true) a' w') a w)
    (hdone : ∀ listed a w, I listed a w → (∀ j, j < ops.size → listed.getD j false = true) → Q .normal a w) :
    ∀ (fuel : Nat) (listed : Array Bool) (a : Act) (w : World), listed.toList.count false ≤ fuel → I listed a w → wpAny P md ops Q fuel listed a w := by
  intro fuel
  induction fuel with
  | zero =>
    intro listed a w hc hI
    have hall : ∀ j, j < ops.size → listed.getD j false = true := by
      intro j hj
      have hl : j < listed.size := by rw [hsz _ _ _ hI]; exact hj
      rw [getD_of hl]
      cases hb : listed[j] with
      | true => rfl
      | false => have := count_down hl hb; omega
    refine ⟨?_, hdone _ _ _ hI hall⟩
    apply List.eq_nil_iff_forall_not_mem.2
    intro i hi
    have hlt := ready_lt hi
    have h1 := (mem_ready.1 hi).1
    have h2 := hall i hlt
    have hl : i < listed.size := by rw [hsz _ _ _ hI]; exact hlt
    rw [getD_of hl] at h1 h2
    rw [h1] at h2; cases h2
  | succ fuel ih =>
    intro listed a w hc hI
    refine ⟨fun hr => hdone _ _ _ hI (ready_all hord (hsz _ _ _ hI) hr), fun i hi => ?_⟩
    have hlt := ready_lt hi
    have hl : i < listed.size := by rw [hsz _ _ _ hI]; exact hlt
    have hb : listed[i] = false := by have := (mem_ready.1 hi).1; rw [getD_of hl] at this; exact this
    have hcd := count_down hl hb
    exact wpOp_mono (fun a' w' h => ih _ a' w' (by omega) h) (hstep _ _ _ _ hI hi)
/-- the table behind one operation more. -/
def upd (l : Nat → Bool) (i : Nat) : Nat → Bool := fun j => if j = i then true else l j
theorem getD_upd {listed : Array Bool} {i : Nat} (hi : i < listed.size) : (fun j => (listed.setIfInBounds i true).getD j false) = upd (fun j => listed.getD j false) i := by
  funext j
  unfold upd
  by_cases h : j = i
  · subst h; simp [hi]
  · rw [if_neg h, getD_set_ne false (Ne.symm h)]
end

end Go.Proofs.Ytomojiipgabhfaa
