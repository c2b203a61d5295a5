/- The walks of the program's functions on measures and amounts. No condition but bounds on lengths. -/
import Derived.Test.YticnnfmmfjfffaaDoorMeaW
namespace Go.Proofs.YticnnfmmfjfffaaDoor
open Go.RowKit
set_option linter.unusedVariables false

/-! small steps between worlds -/
theorem below_new (w : World) (o : Obj) : Below w.heap.size w (w.alloc o) := (Below.refl _ _).alloc (Nat.le_refl _) _
theorem below_then {a b c : World} (h : Below a.heap.size a b) (k : Below b.heap.size b c) : Below a.heap.size a c := h.trans (k.mono h.size)
theorem RD.to {k : IntKind} {w w' : World} {A : Option Addr} {zs : List Int} (h : RD k w w.heap.size A zs) (hb : Below w.heap.size w w') : RD k w' w'.heap.size A zs := (h.below hb (Nat.le_refl _)).mono hb.size
theorem RD.new {k : IntKind} {w : World} {A : Option Addr} {zs : List Int} (h : RD k w w.heap.size A zs) (o : Obj) : RD k (w.alloc o) (w.alloc o).heap.size A zs := h.to (below_new w o)
theorem IR.from_ {w w1 w' : World} {A : Option Addr} {c : Nat} {zs : List Int} (h : IR w' w1.heap.size A c zs) (hb : Below w.heap.size w w1) : IR w' w.heap.size A c zs := h.mono hb.size
theorem IR.to {w w' : World} {B : Nat} {A : Option Addr} {c : Nat} {zs : List Int} (h : IR w B A c zs) (hb : Below w.heap.size w w') : IR w' B A c zs := h.below hb (Nat.le_refl _)
theorem retIB_from {w w1 : World} {zs : List Int} {b : Bool} {e : Ending} {w' : World} (h : RetIB w1 zs b e w') (hb : Below w.heap.size w w1) : RetIB w zs b e w' := by
  obtain ⟨A, c, he, hi, hb'⟩ := h
  exact ⟨A, c, he, hi.from_ hb, below_then hb hb'⟩
theorem retInts_from {w w1 : World} {zs : List Int} {e : Ending} {w' : World} (h : RetInts w1 zs e w') (hb : Below w.heap.size w w1) : RetInts w zs e w' := by
  obtain ⟨A, c, he, hi, hb'⟩ := h
  exact ⟨A, c, he, hi.from_ hb, below_then hb hb'⟩
theorem res4 {fn : Func} {t u v x : Tmp} (h : fn.results = #[.tmp t, .tmp u, .tmp v, .tmp x]) (tmps : Array Value) (P : Program) (w : World) :
    (results fn tmps).run P w = .ok (.tuple #[tmps.getD t undef, tmps.getD u undef, tmps.getD v undef, tmps.getD x undef]) w := by simp [results, h]

/-- whether so many of the least unit are an amount. -/
def aoB (rs : List Int) (n : Int) : Bool := vldR rs && (decide (0 ≤ n) && decide (n ≤ 1000000000))
def aoZ (rs : List Int) (n : Int) : List Int := if aoB rs n then prp (wor rs) n else []
theorem aoB_iff {rs : List Int} {n : Int} : aoB rs n = true ↔ vldR rs = true ∧ 0 ≤ n ∧ n ≤ 1000000000 := by simp [aoB]
theorem aoZ_yes {rs : List Int} {n : Int} (h : aoB rs n = true) : aoZ rs n = prp (wor rs) n := if_pos h
theorem aoZ_no {rs : List Int} {n : Int} (h : aoB rs n = false) : aoZ rs n = [] := if_neg (by simp [h])
theorem aoB_yes {rs : List Int} {n : Int} (h : vldR rs = true) (h0 : 0 ≤ n) (h1 : n ≤ 1000000000) : aoB rs n = true := aoB_iff.2 ⟨h, h0, h1⟩
theorem aoB_bad {rs : List Int} {n : Int} (h : n < 0 ∨ 1000000000 < n) : aoB rs n = false := by
  rw [Bool.eq_false_iff]; intro h'; have := aoB_iff.1 h'; omega
theorem aoB_inv {rs : List Int} {n : Int} (h : vldR rs = false) : aoB rs n = false := by simp [aoB, h]
theorem aoZ_len (rs : List Int) (n : Int) : (aoZ rs n).length ≤ 5 := by
  unfold aoZ
  split
  · rename_i h
    have := (vldR_iff.1 (aoB_iff.1 h).1).1
    rw [prp_len, wor_len]; omega
  · simp
theorem mw_len (rs : List Int) : (mw rs).length ≤ 5 := by
  unfold mw
  split
  · rename_i h
    have := (vldR_iff.1 h).1
    rw [wor_len]; omega
  · simp
theorem wor_ixs {rs : List Int} (h : vldR rs = true) : ∀ i, i < (wor rs).length → 1 ≤ ix (wor rs) i ∧ ix (wor rs) i ≤ 100000000 := fun i hi =>
  wor_bd rs (vldR_iff.1 h).1 (vldR_iff.1 h).2 i (by rw [wor_len] at hi; exact hi)

theorem least_at (A C : Option Addr) (c d m : Nat) (rs ns : List Int) (w : World) (hv : vldR rs = true) (hm : m = (wor rs).length) (hA : RD .i64 w w.heap.size A (wor rs)) (hC : RD .i64 w w.heap.size C ns) (hl : ns.length ≤ 1048576) :
    Calls Tryd.prog 31 #[.slice A m c, .slice C ns.length d] w fun e w' => e = .returned (lstV (lst rs ns)) ∧ w = w' := by
  subst hm
  have hl5 := (vldR_iff.1 hv).1
  by_cases h : ns.length = rs.length + 1
  · have e : lst rs ns = lstF ns (wor rs) 0 := by rw [lst, if_pos ⟨hv, h⟩]
    rw [e]
    exact least_yes A C c d (wor rs) ns w hA hC (by rw [wor_len]; exact h) (wor_ixs hv) (by rw [wor_len]; omega)
  · have e : lst rs ns = -1 := by rw [lst, if_neg (fun h' => h h'.2)]
    rw [e]
    exact least_no A C c d _ _ w (by rw [wor_len]; omega) (by rw [wor_len]; omega) hl

/-- a new list of integers, an integer and a bool. -/
def RetSIB (w : World) (zs : List Int) (x : Int) (b : Bool) (e : Ending) (w' : World) : Prop := ∃ A c, e = .returned (.tuple #[.slice A zs.length c, .int .i64 x, .bool b]) ∧ IR w' w.heap.size A c zs ∧ Below w.heap.size w w'
/-- an amount in a scale: what holds of the scale and of the least units. -/
def RetAm (w : World) (rs : List Int) (n : Int) (e : Ending) (w' : World) : Prop := ∃ A c m, e = .returned (.tuple #[.slice A m c, .int .i64 (pos0 n), .bool (nng n)]) ∧ Below w.heap.size w w' ∧ (0 ≤ n → m = (wor rs).length ∧ RD .i64 w' w'.heap.size A (wor rs))

theorem lst_inv {rs ns : List Int} (h : vldR rs = false) : lst rs ns = -1 := by rw [lst, if_neg (by simp [h])]

set_option maxHeartbeats 400000 in
theorem amountIn_any (A C : Option Addr) (c d : Nat) (rs ns : List Int) (w : World) (hA : RD .i64 w w.heap.size A rs) (hl : rs.length ≤ 1048576) (hC : RD .i64 w w.heap.size C ns) (hl2 : ns.length ≤ 1048576) :
    Calls Tryd.prog 23 #[.agg #[.slice A rs.length c], .slice C ns.length d] w (RetAm w rs (lst rs ns)) := by
  go_enter Tryd.func23, Tryd.ntmps23
  go_wp2_with fail
  refine (scaleOf_any A c rs _ (hA.new _) hl).mono ?_
  rintro e w1 ⟨A1, c1, rfl, hi1, hb1⟩
  have hbb := below_then (below_new w _) hb1
  cases hv : vldR rs with
  | true =>
    rw [mw_yes hv] at hi1 ⊢
    have HV := Lib.hid hv
    clear hv
    go_wp2_with fail
    refine (least_at A1 C c1 d _ rs ns _ HV.out rfl hi1.rd (hC.to hbb) hl2).mono ?_
    rintro e w' ⟨rfl, rfl⟩
    unfold lstV
    go_wp2_with fail
    go_ret3
    exact ⟨A1, c1, _, rfl, hbb, fun _ => ⟨rfl, hi1.rd⟩⟩
  | false =>
    have HL := Lib.hid (lst_inv (ns := ns) hv)
    clear hv
    go_wp2_with fail
    go_ret3
    rw [HL.out]
    exact ⟨none, 0, 0, rfl, hbb, fun h => absurd h (by decide)⟩

/-- two amounts in a scale. -/
def RetAm2 (w : World) (rs : List Int) (x y : Int) (e : Ending) (w' : World) : Prop := ∃ A c m, e = .returned (.tuple #[.slice A m c, .int .i64 (pos0 x), .int .i64 (pos0 y), .bool (nng x && nng y)]) ∧ Below w.heap.size w w' ∧ (0 ≤ x → m = (wor rs).length ∧ RD .i64 w' w'.heap.size A (wor rs))

theorem iAmountValid_any (A C : Option Addr) (c d : Nat) (rs ns : List Int) (w : World) (hA : RD .i64 w w.heap.size A rs) (hl : rs.length ≤ 1048576) (hC : RD .i64 w w.heap.size C ns) (hl2 : ns.length ≤ 1048576) :
    Calls Tryd.prog 15 #[.agg #[.slice A rs.length c], .slice C ns.length d] w fun e w' => e = .returned (.bool (nng (lst rs ns))) ∧ Below w.heap.size w w' := by
  obtain ⟨x, hx⟩ : ∃ x, lst rs ns = x := ⟨_, rfl⟩
  rw [hx]
  have HX := Lib.hid hx
  clear hx
  go_enter Tryd.func15, Tryd.ntmps15
  go_wp2_with fail
  refine (amountIn_any A C c d rs ns _ (hA.new _) hl (hC.new _) hl2).mono ?_
  rintro e w1 ⟨A1, c1, m1, rfl, hb1, -⟩
  have hbb := below_then (below_new w _) hb1
  rw [HX.out]
  go_wp2_with fail
  go_ret
  exact ⟨rfl, hbb⟩
/-- what comes of a number of least units that stands only where a condition holds. -/
theorem retIB_none {w w' : World} {rs : List Int} {n : Int} (hn : n < 0) (hb : Below w.heap.size w w') : RetIB w (aoZ rs n) (aoB rs n) (.returned (.tuple #[.slice none 0 0, .bool false])) w' := by
  rw [aoZ_no (aoB_bad (.inl hn)), aoB_bad (.inl hn)]
  exact ⟨none, 0, rfl, IR.nil_ _ _, hb⟩
/-- two amounts together. -/
def addN (x y : Int) : Int := if 0 ≤ x ∧ 0 ≤ y then x + y else -1
def takeN (x y : Int) : Int := if 0 ≤ x ∧ 0 ≤ y then x - y else -1
def timesN (x n : Int) : Int := if 0 ≤ x ∧ 0 ≤ n ∧ n ≤ 100000 then x * n else -1
def convN (v : Bool) (x a b : Int) : Int := if 0 ≤ x ∧ v = true ∧ 1 ≤ a ∧ a ≤ 1000 ∧ 1 ≤ b ∧ b ≤ 1000 then x * b / a else -1
/-- how two amounts stand to one another. -/
def ordN (x y : Int) : Int := if 0 ≤ x ∧ 0 ≤ y then (if x < y then -1 else if y < x then 1 else 0) else 0
theorem ordN_lt {x y : Int} (hx : 0 ≤ x) (hy : 0 ≤ y) (h : x < y) : ordN x y = -1 := by rw [ordN, if_pos ⟨hx, hy⟩, if_pos h]
theorem ordN_gt {x y : Int} (hx : 0 ≤ x) (hy : 0 ≤ y) (h : y < x) : ordN x y = 1 := by rw [ordN, if_pos ⟨hx, hy⟩, if_neg (by omega), if_pos h]
theorem ordN_eq {x y : Int} (hx : 0 ≤ x) (hy : 0 ≤ y) (h : ¬ x < y) (h2 : ¬ y < x) : ordN x y = 0 := by rw [ordN, if_pos ⟨hx, hy⟩, if_neg h, if_neg h2]
theorem ordN_no {x y : Int} (h : ¬ (0 ≤ x ∧ 0 ≤ y)) : ordN x y = 0 := if_neg h
/-- two new lists of integers and a bool. -/
def RetIIB (w : World) (zs ys : List Int) (b : Bool) (e : Ending) (w' : World) : Prop := ∃ A c D d, e = .returned (.tuple #[.slice A zs.length c, .slice D ys.length d, .bool b]) ∧ IR w' w.heap.size A c zs ∧ IR w' w.heap.size D d ys ∧ (∀ g, A.map (·.block) = some g → D.map (·.block) ≠ some g) ∧ Below w.heap.size w w'
/-- whether an amount is shared. -/
def shB (x n : Int) : Bool := nng x && (decide (1 ≤ n) && decide (n ≤ 100000))
theorem shB_iff {x n : Int} : shB x n = true ↔ 0 ≤ x ∧ 1 ≤ n ∧ n ≤ 100000 := by simp [shB, nng]
def shZ (rs : List Int) (x n k : Int) : List Int := if shB x n then prp (wor rs) k else []
theorem shZ_yes {rs : List Int} {x n k : Int} (h : shB x n = true) : shZ rs x n k = prp (wor rs) k := if_pos h
theorem shZ_no {rs : List Int} {x n k : Int} (h : shB x n = false) : shZ rs x n k = [] := if_neg (by simp [h])
theorem shB_yes {x n : Int} (h0 : 0 ≤ x) (h1 : 1 ≤ n) (h2 : n ≤ 100000) : shB x n = true := shB_iff.2 ⟨h0, h1, h2⟩
theorem shB_no {x n : Int} (h : ¬ (0 ≤ x ∧ 1 ≤ n ∧ n ≤ 100000)) : shB x n = false := by
  rw [Bool.eq_false_iff]; intro h'; exact h (shB_iff.1 h')
theorem retIIB_none {w w' : World} {rs : List Int} {x n : Int} (hn : ¬ (0 ≤ x ∧ 1 ≤ n ∧ n ≤ 100000)) (hb : Below w.heap.size w w') : RetIIB w (shZ rs x n (x / n)) (shZ rs x n (x % n)) (shB x n) (.returned (.tuple #[.slice none 0 0, .slice none 0 0, .bool false])) w' := by
  rw [shZ_no (shB_no hn), shZ_no (shB_no hn), shB_no hn]
  exact ⟨none, 0, none, 0, rfl, IR.nil_ _ _, IR.nil_ _ _, (fun g h => by cases h), hb⟩

end Go.Proofs.YticnnfmmfjfffaaDoor
