/- Plain laws and a step for the law FnAmountLeast: partial sums, one unit more, a copied list. No condition. -/
import Derived.Test.YtmcooaopbigebaaLawK
namespace Go.Proofs.Ytmcooaopbigebaa
open Go.RowKit
set_option linter.unusedVariables false

theorem dot_nil (ws : List Int) : dot [] ws = 0 := by cases ws <;> rfl
theorem dot_take (ns ws : List Int) (k : Nat) (h1 : k < ns.length) (h2 : k < ws.length) : dot (ns.take (k + 1)) (ws.take (k + 1)) = dot (ns.take k) (ws.take k) + ix ns k * ix ws k := by
  induction ns generalizing ws k with
  | nil => simp at h1
  | cons n ns ih =>
    cases ws with
    | nil => simp at h2
    | cons v vs =>
      cases k with
      | zero => simp [dot, ix, dot_nil]
      | succ k =>
        rw [List.take_succ_cons, List.take_succ_cons, dot, ih vs k (by simpa using h1) (by simpa using h2), List.take_succ_cons, List.take_succ_cons, dot, ix_succ, ix_succ]
        omega
theorem dot_take_le (ns ws : List Int) (k : Nat) (h1 : ∀ n ∈ ns, 0 ≤ n) (h2 : ∀ w ∈ ws, 1 ≤ w) : 0 ≤ dot (ns.take k) (ws.take k) ∧ dot (ns.take k) (ws.take k) ≤ dot ns ws := by
  induction ns generalizing ws k with
  | nil => simp [dot_nil]
  | cons n ns ih =>
    cases ws with
    | nil => cases k <;> simp [dot]
    | cons v vs =>
      have hm := Int.mul_nonneg (h1 n (by simp)) (show 0 ≤ v by have := h2 v (by simp); omega)
      cases k with
      | zero =>
        have := dot_nn (n :: ns) (v :: vs) h1 h2
        simp [dot] at this ⊢
        exact this
      | succ k =>
        have := ih vs k (fun x hx => h1 x (by simp [hx])) (fun x hx => h2 x (by simp [hx]))
        rw [List.take_succ_cons, List.take_succ_cons, dot, dot]
        omega
theorem dot_set (ns ws : List Int) (k : Nat) (h1 : k < ns.length) (h2 : k < ws.length) : dot (ns.set k (ix ns k + 1)) ws = dot ns ws + ix ws k := by
  induction ns generalizing ws k with
  | nil => simp at h1
  | cons n ns ih =>
    cases ws with
    | nil => simp at h2
    | cons v vs =>
      cases k with
      | zero => simp [dot, ix, Int.add_mul]; omega
      | succ k =>
        have := ih vs k (by simpa using h1) (by simpa using h2)
        rw [List.set_cons_succ, dot, dot, ix_succ, ix_succ, this]
        omega
/-- one unit more. -/
theorem lst_more {rs ns : List Int} {N : Int} (h : lst rs ns = N) (hp : 0 ≤ N) (k : Nat) (hk : k < ns.length) :
    (N + ix (wor rs) k ≤ 1000000000 ∧ lst rs (ns.set k (ix ns k + 1)) = N + ix (wor rs) k) ∨ (1000000000 < N + ix (wor rs) k ∧ lst rs (ns.set k (ix ns k + 1)) = -1) := by
  have hv := lst_vld (rs := rs) (list := ns) (by omega)
  obtain ⟨hd, hn⟩ := lst_nn h hp
  have hds := dot_set ns (wor rs) k hk (by rw [wor_len]; omega)
  have hn' : ∀ n ∈ ns.set k (ix ns k + 1), 0 ≤ n := by
    intro n hx
    rcases List.mem_or_eq_of_mem_set hx with h1 | h1
    · exact hn n h1
    · have := hn (ix ns k) (ix_mem ns hk); omega
  rcases lst_is rs (ns.set k (ix ns k + 1)) with ⟨_, _, e, _, _, h6⟩ | ⟨e, h6⟩
  · left; omega
  · right
    have := h6 hv.1 (by rw [List.length_set]; exact hv.2) hn'
    omega
/-- what 'append([]int{}, xs...)' does. -/
theorem wpList_dup {w0 : World} {ops : Array Oper} {rest : List Oper} {o : Oper} {a : Act} {Q : Exit → Act → World → Prop} (hgd : o.guard = none) (s x : Operand)
    (ho : o.op = .call { callee := .builtin .append, args := #[s, x], argTypes := #[22, 22] })
    (A : Option Addr) (c : Nat) (zs : List Int) (n : Nat) (hn : n = zs.length) (hx : a.eval x = .slice A n c) (hrd : RD .i64 w0 w0.heap.size A zs) (hz : 0 < zs.length)
    (sz : Nat) (hs : a.eval s = .slice (some ⟨sz, 0, none⟩) 0 0) (hsz : sz = w0.heap.size) (hlen : zs.length < 2000000)
    (h : ∀ A' c' w', IR w' w0.heap.size A' c' zs → Below w0.heap.size w0 w' → wpList Try.prog ops Q rest (a.put o.dst (.slice A' zs.length c')) w') :
    wpList Try.prog ops Q (o :: rest) a (w0.alloc (.cells #[] 3)) := by
  subst hn
  subst hsz
  obtain ⟨i0, hi0, hz0, hz1, hz2⟩ := info_parts int_info
  obtain ⟨b, off, rfl, hb, hcell⟩ := hrd hz
  refine wpList_append_own _ hgd s x 22 ho w0.heap.size 3 i0 _ 1 8 Try.underlying22 hi0 hz0 hz1 hz2 rfl (by omega) _ 0 _ hs (ir_mt w0) ⟨b, off, none⟩ zs.length c (zs.map (Value.int .i64)) hx (by simp) ?_ (ints_oneCell _ _) (by simp only [maxLen]; omega) (by omega) (by simp) ?_
  · intro j u hu
    have hj : j < zs.length := by
      rcases Nat.lt_or_ge j zs.length with h | h
      · exact h
      · rw [List.getElem?_eq_none (by simpa using h)] at hu; cases hu
    rw [List.getElem?_map, ix_some zs hj] at hu
    simp only [Option.map_some, Option.some.injEq] at hu
    subst hu
    rw [add_none, World.cell?_alloc_lt w0 _ _ hb]
    exact hcell j hj
  · intro v' w' hown' hg hnil
    have e : ∃ A' c', v' = .slice A' zs.length c' := by
      rcases hown'.2 with ⟨_, h0⟩ | ⟨g, cap, cur, e, _⟩
      · exfalso; simp at h0; simp [h0] at hz
      · exact ⟨_, _, by rw [Nat.zero_add] at e; exact e⟩
    obtain ⟨A', c', rfl⟩ := e
    refine h A' c' w' ?_ ⟨hg.os, hg.tape, hg.output, by have := hg.size; simp at this; omega, fun k hk => (hg.block k (by simp; omega) (by simp [Value.ownBlock]; omega)).trans (Below.heap_alloc w0 _ k hk)⟩
    unfold IR
    simpa using hown'

end Go.Proofs.Ytmcooaopbigebaa
