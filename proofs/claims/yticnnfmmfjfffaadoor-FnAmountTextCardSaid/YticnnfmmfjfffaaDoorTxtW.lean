/- The draw of the law FnAmountText; plain laws: points are counted, a changed number changes the text. No condition. -/
import Derived.Test.YticnnfmmfjfffaaDoorDrwB
import Derived.Test.YticnnfmmfjfffaaDoorTxtI
import Derived.PlainAid
namespace Go.Proofs.YticnnfmmfjfffaaDoor
open Go.RowKit Go.PlainAid
open Go.Lib (decDigits)
set_option linter.unusedVariables false
set_option linter.unusedSimpArgs false

set_option maxHeartbeats 400000 in
theorem drawAmountText_any (A : Option Addr) (len cap : Nat) (zs : List Int) (w : World) (hs : Sl .u8 w A len cap zs) :
    Calls Tryd.prog 5 #[.slice A len cap] w (DrewOne w) := by
  have HS := Lib.hid (hs.new (.cells #[.slice none 0 0] 25))
  clear hs
  go_enter Tryd.func5, Tryd.ntmps5
  go_wp2_with fail
  refine (l6Open_any A len cap zs _ HS.out).mono ?_
  rintro e w1 ⟨g, rfl, hr1, hb1⟩
  have b1 := blk_below (nil_measure_new w) hb1 (by simp)
  have hl := hr1.lt
  simp at hl
  have T1 := below_then (below_new w _) hb1
  go_wp2_with fail
  refine (l92One_any _ g 0 _ hr1 (by omega) (by omega)).mono ?_
  rintro e w2 ⟨rs, ns, A2, A3, c2, c3, p', -, -, rfl, ho⟩
  have b2 := blk_grown b1 ho.old (fun k e => by injection e with e; omega)
  obtain ⟨c2', f2'⟩ := box_cell2 b2
  go_wp2_with fail
  have hra := after_set0 b2 (.slice A2 rs.length c2)
  refine bodyPost_ret (v := .tuple #[.agg #[.slice A2 rs.length c2], .slice A3 ns.length c3]) (by simp [results, Tryd.results5, go_sem, hra]) rfl ?_
  exact ⟨rs, ns, A2, A3, c2, c3, ⟨ho.rl, ho.rb⟩, ⟨ho.nl, ho.nb⟩, rfl, (ho.rr.set _ _ (by omega)).mono (by omega), (ho.nr.set _ _ (by omega)).mono (by omega), (below_pick T1 ho.old (by omega)).setCell (Nat.le_refl _) _⟩
/-- what 'append([]int{}, xs...)' does. -/
theorem wpList_dup {w0 : World} {ops : Array Oper} {rest : List Oper} {o : Oper} {a : Act} {Q : Exit → Act → World → Prop} (hgd : o.guard = none) (s x : Operand)
    (ho : o.op = .call { callee := .builtin .append, args := #[s, x], argTypes := #[23, 23] })
    (A : Option Addr) (c : Nat) (zs : List Int) (n : Nat) (hn : n = zs.length) (hx : a.eval x = .slice A n c) (hrd : RD .i64 w0 w0.heap.size A zs) (hz : 0 < zs.length)
    (sz : Nat) (hs : a.eval s = .slice (some ⟨sz, 0, none⟩) 0 0) (hsz : sz = w0.heap.size) (hlen : zs.length < 2000000)
    (h : ∀ A' c' w', IR w' w0.heap.size A' c' zs → Below w0.heap.size w0 w' → wpList Tryd.prog ops Q rest (a.put o.dst (.slice A' zs.length c')) w') :
    wpList Tryd.prog ops Q (o :: rest) a (w0.alloc (.cells #[] 3)) := by
  subst hn
  subst hsz
  obtain ⟨i0, hi0, hz0, hz1, hz2⟩ := info_parts int_info
  obtain ⟨b, off, rfl, hb, hcell⟩ := hrd hz
  refine wpList_append_own _ hgd s x 23 ho w0.heap.size 3 i0 _ 1 8 Tryd.underlying23 hi0 hz0 hz1 hz2 rfl (by omega) _ 0 _ hs (ir_mt w0) ⟨b, off, none⟩ zs.length c (zs.map (Value.int .i64)) hx (by simp) ?_ (ints_oneCell _ _) (by simp only [maxLen]; omega) (by omega) (by simp) ?_
  · intro j u hu
    have hj : j < zs.length := by
      rcases Nat.lt_or_ge j zs.length with h | h
      · exact h
      · rw [List.getElem?_eq_none (by simpa using h)] at hu; cases hu
    rw [List.getElem?_map, ix_some zs hj] at hu
    simp only [Option.map_some, Option.some.injEq] at hu
    subst hu
    rw [add_none, World.cell?_alloc_lt w0 _ _ hb]
    exact hcell j hj
  · intro v' w' hown' hg hnil
    have e : ∃ A' c', v' = .slice A' zs.length c' := by
      rcases hown'.2 with ⟨_, h0⟩ | ⟨g, cap, cur, e, _⟩
      · exfalso; simp at h0; simp [h0] at hz
      · exact ⟨_, _, by rw [Nat.zero_add] at e; exact e⟩
    obtain ⟨A', c', rfl⟩ := e
    refine h A' c' w' ?_ ⟨hg.os, hg.tape, hg.output, by have := hg.size; simp at this; omega, fun k hk => (hg.block k (by simp; omega) (by simp [Value.ownBlock]; omega)).trans (Below.heap_alloc w0 _ k hk)⟩
    unfold IR
    simpa using hown'


/-- the points among a text's first k bytes. -/
def cpt (s : ByteArray) : Nat → Int
  | 0 => 0
  | k + 1 => cpt s k + (if bt s k = 46 then 1 else 0)
theorem cpt_bd (s : ByteArray) : ∀ k, 0 ≤ cpt s k ∧ cpt s k ≤ (k : Int)
  | 0 => by simp [cpt]
  | k + 1 => by
    have := cpt_bd s k
    rw [cpt]
    split <;> omega
theorem cpt_yes {s : ByteArray} {k : Nat} (h : bt s k = 46) : cpt s (k + 1) = cpt s k + 1 := by rw [cpt, if_pos h]
theorem cpt_no {s : ByteArray} {k : Nat} (h : bt s k ≠ 46) : cpt s (k + 1) = cpt s k := by rw [cpt, if_neg h]; omega
theorem bt_of (l : List UInt8) (k : Nat) (h : k < l.length) : bt ⟨l.toArray⟩ k = (l[k].toNat : Int) := by
  have hs : k < (⟨l.toArray⟩ : ByteArray).size := by show k < l.toArray.size; simpa using h
  rw [← get_bt _ k hs]
  rfl
theorem cpt_count (l : List UInt8) : ∀ k, k ≤ l.length → cpt ⟨l.toArray⟩ k = ((l.take k).count 46 : Nat)
  | 0, _ => by simp [cpt]
  | k + 1, h => by
    have ih := cpt_count l k (by omega)
    rw [List.take_succ_eq_append_getElem (by omega), List.count_append, cpt, ih, bt_of l k (by omega)]
    by_cases h46 : l[k] = 46
    · rw [h46]; simp
    · have : ¬ ((l[k].toNat : Int) = 46) := fun e => h46 (by
        apply UInt8.toNat_inj.1
        show l[k].toNat = 46
        omega)
      rw [if_neg this]
      have : ([l[k]] : List UInt8).count 46 = 0 := by rw [List.count_eq_zero]; simp; exact fun e => h46 e.symm
      rw [this]; simp
theorem tx_points {ns : List Int} (h : 1 ≤ ns.length) : cpt (txS ns) (txS ns).size = (ns.length : Int) - 1 := by
  have e : (txS ns).size = (txN ns).length := by show (txN ns).toArray.size = _; simp
  rw [e, txS, cpt_count _ _ (Nat.le_refl _), List.take_length]
  cases ns with
  | nil => simp at h
  | cons n ns =>
    unfold txN
    rw [List.map_cons, dj_points, List.length_map, List.length_cons]
    omega
theorem dec_pos (u : Nat) : 1 ≤ (decDigits u).length := by
  by_cases h : u < 10
  · rw [dec_small h]; simp
  · rw [dec_big h]; simp
theorem tx_some {ns : List Int} (h : 1 ≤ ns.length) : 1 ≤ (txS ns).size := by
  have e : (txS ns).size = (txN ns).length := by show (txN ns).toArray.size = _; simp
  rw [e]
  cases ns with
  | nil => simp at h
  | cons n ns =>
    cases ns with
    | nil => unfold txN; rw [List.map_cons, List.map_nil, dj_one]; exact dec_pos _
    | cons m ns => unfold txN; rw [List.map_cons, List.map_cons, dj_cons]; simp; omega
theorem tx_inj {ns ms : List Int} (hl : ns.length = ms.length) (h1 : ∀ n ∈ ns, 0 ≤ n) (h2 : ∀ n ∈ ms, 0 ≤ n) (h : txS ns = txS ms) : ns = ms := by
  have e : txN ns = txN ms := by
    have := congrArg (fun s : ByteArray => s.data.toList) h
    simpa [txS] using this
  have e2 := dj_inj (by simpa using hl) e
  apply List.ext_getElem hl
  intro i hi hj
  have := congrArg (fun l : List Nat => l[i]?) e2
  simp [hi, hj] at this
  have a1 := h1 _ (List.getElem_mem hi)
  have a2 := h2 _ (List.getElem_mem hj)
  omega
/-- one more changes the text. -/
theorem tx_ne {rs ns : List Int} (h : 0 ≤ lst rs ns) {j : Nat} (hj : j < ns.length) : txB rs (ns.set j (ix ns j + 1)) ≠ txS ns := by
  obtain ⟨n1, n5, hel⟩ := lst_elems h
  intro e
  by_cases h2 : 0 ≤ lst rs (ns.set j (ix ns j + 1))
  · rw [txB_yes h2] at e
    obtain ⟨_, _, hel2⟩ := lst_elems h2
    have := tx_inj (by simp) (fun n hn => (hel2 n hn).1) (fun n hn => (hel n hn).1) e
    have e3 := congrArg (fun l : List Int => l[j]?) this
    simp [hj] at e3
    rw [ix_eq ns hj] at e3
    omega
  · rw [txB_no h2] at e
    have := tx_some n1
    rw [← e] at this
    exact absurd this (by decide)

theorem bs_ne {x y : ByteArray} (h : x ≠ y) : (x.toList == y.toList) = false := by
  rw [ByteArray.toList_eq, ByteArray.toList_eq]
  apply Bool.eq_false_iff.2
  intro e
  apply h
  have e2 := eq_of_beq e
  apply ByteArray.ext
  exact Array.toList_inj.1 e2
theorem bs_some {x : ByteArray} (h : 1 ≤ x.size) : x.toList.isEmpty = false := by
  rw [ByteArray.toList_eq]
  cases hl : x.data.toList with
  | nil =>
    have e : x.data.toList.length = x.data.size := Array.length_toList
    rw [hl, List.length_nil] at e
    have e2 : x.size = x.data.size := rfl
    omega
  | cons _ _ => rfl

end Go.Proofs.YticnnfmmfjfffaaDoor
