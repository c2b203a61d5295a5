/- The walks of the program's functions on measures and amounts. No condition but bounds on lengths. -/
import Derived.Test.YtmcooaopbigebaaMeaW
namespace Go.Proofs.Ytmcooaopbigebaa
open Go.RowKit
set_option linter.unusedVariables false

/-! small steps between worlds -/
theorem below_new (w : World) (o : Obj) : Below w.heap.size w (w.alloc o) := (Below.refl _ _).alloc (Nat.le_refl _) _
theorem below_then {a b c : World} (h : Below a.heap.size a b) (k : Below b.heap.size b c) : Below a.heap.size a c := h.trans (k.mono h.size)
theorem RD.to {k : IntKind} {w w' : World} {A : Option Addr} {zs : List Int} (h : RD k w w.heap.size A zs) (hb : Below w.heap.size w w') : RD k w' w'.heap.size A zs := (h.below hb (Nat.le_refl _)).mono hb.size
theorem RD.new {k : IntKind} {w : World} {A : Option Addr} {zs : List Int} (h : RD k w w.heap.size A zs) (o : Obj) : RD k (w.alloc o) (w.alloc o).heap.size A zs := h.to (below_new w o)
theorem IR.from_ {w w1 w' : World} {A : Option Addr} {c : Nat} {zs : List Int} (h : IR w' w1.heap.size A c zs) (hb : Below w.heap.size w w1) : IR w' w.heap.size A c zs := h.mono hb.size
theorem IR.to {w w' : World} {B : Nat} {A : Option Addr} {c : Nat} {zs : List Int} (h : IR w B A c zs) (hb : Below w.heap.size w w') : IR w' B A c zs := h.below hb (Nat.le_refl _)
theorem retIB_from {w w1 : World} {zs : List Int} {b : Bool} {e : Ending} {w' : World} (h : RetIB w1 zs b e w') (hb : Below w.heap.size w w1) : RetIB w zs b e w' := by
  obtain ⟨A, c, he, hi, hb'⟩ := h
  exact ⟨A, c, he, hi.from_ hb, below_then hb hb'⟩
theorem retInts_from {w w1 : World} {zs : List Int} {e : Ending} {w' : World} (h : RetInts w1 zs e w') (hb : Below w.heap.size w w1) : RetInts w zs e w' := by
  obtain ⟨A, c, he, hi, hb'⟩ := h
  exact ⟨A, c, he, hi.from_ hb, below_then hb hb'⟩
theorem res4 {fn : Func} {t u v x : Tmp} (h : fn.results = #[.tmp t, .tmp u, .tmp v, .tmp x]) (tmps : Array Value) (P : Program) (w : World) :
    (results fn tmps).run P w = .ok (.tuple #[tmps.getD t undef, tmps.getD u undef, tmps.getD v undef, tmps.getD x undef]) w := by simp [results, h]

/-- whether so many of the least unit are an amount. -/
def aoB (rs : List Int) (n : Int) : Bool := vldR rs && (decide (0 ≤ n) && decide (n ≤ 1000000000))
def aoZ (rs : List Int) (n : Int) : List Int := if aoB rs n then prp (wor rs) n else []
theorem aoB_iff {rs : List Int} {n : Int} : aoB rs n = true ↔ vldR rs = true ∧ 0 ≤ n ∧ n ≤ 1000000000 := by simp [aoB]
theorem aoZ_yes {rs : List Int} {n : Int} (h : aoB rs n = true) : aoZ rs n = prp (wor rs) n := if_pos h
theorem aoZ_no {rs : List Int} {n : Int} (h : aoB rs n = false) : aoZ rs n = [] := if_neg (by simp [h])
theorem aoB_yes {rs : List Int} {n : Int} (h : vldR rs = true) (h0 : 0 ≤ n) (h1 : n ≤ 1000000000) : aoB rs n = true := aoB_iff.2 ⟨h, h0, h1⟩
theorem aoB_bad {rs : List Int} {n : Int} (h : n < 0 ∨ 1000000000 < n) : aoB rs n = false := by
  rw [Bool.eq_false_iff]; intro h'; have := aoB_iff.1 h'; omega
theorem aoB_inv {rs : List Int} {n : Int} (h : vldR rs = false) : aoB rs n = false := by simp [aoB, h]
theorem aoZ_len (rs : List Int) (n : Int) : (aoZ rs n).length ≤ 5 := by
  unfold aoZ
  split
  · rename_i h
    have := (vldR_iff.1 (aoB_iff.1 h).1).1
    rw [prp_len, wor_len]; omega
  · simp
theorem mw_len (rs : List Int) : (mw rs).length ≤ 5 := by
  unfold mw
  split
  · rename_i h
    have := (vldR_iff.1 h).1
    rw [wor_len]; omega
  · simp
theorem wor_ixs {rs : List Int} (h : vldR rs = true) : ∀ i, i < (wor rs).length → 1 ≤ ix (wor rs) i ∧ ix (wor rs) i ≤ 100000000 := fun i hi =>
  wor_bd rs (vldR_iff.1 h).1 (vldR_iff.1 h).2 i (by rw [wor_len] at hi; exact hi)

theorem proper_at (A : Option Addr) (c m : Nat) (rs : List Int) (n : Int) (w : World) (hv : vldR rs = true) (hm : m = (wor rs).length) (hA : RD .i64 w w.heap.size A (wor rs)) :
    Calls Try.prog 52 #[.slice A m c, .int .i64 n] w (RetIB w (aoZ rs n) (aoB rs n)) := by
  subst hm
  by_cases h : 0 ≤ n ∧ n ≤ 1000000000
  · have hb := aoB_yes hv h.1 h.2
    rw [aoZ_yes hb, hb]
    exact proper_yes A c (wor rs) n w hA (wor_ixs hv) (by have := (vldR_iff.1 hv).1; rw [wor_len]; omega) h.1 h.2
  · have hb := aoB_bad (rs := rs) (n := n) (by omega)
    rw [aoZ_no hb, hb]
    exact proper_no A c _ n w (by omega)

theorem least_at (A C : Option Addr) (c d m : Nat) (rs ns : List Int) (w : World) (hv : vldR rs = true) (hm : m = (wor rs).length) (hA : RD .i64 w w.heap.size A (wor rs)) (hC : RD .i64 w w.heap.size C ns) (hl : ns.length ≤ 1048576) :
    Calls Try.prog 57 #[.slice A m c, .slice C ns.length d] w fun e w' => e = .returned (lstV (lst rs ns)) ∧ w = w' := by
  subst hm
  have hl5 := (vldR_iff.1 hv).1
  by_cases h : ns.length = rs.length + 1
  · have e : lst rs ns = lstF ns (wor rs) 0 := by rw [lst, if_pos ⟨hv, h⟩]
    rw [e]
    exact least_yes A C c d (wor rs) ns w hA hC (by rw [wor_len]; exact h) (wor_ixs hv) (by rw [wor_len]; omega)
  · have e : lst rs ns = -1 := by rw [lst, if_neg (fun h' => h h'.2)]
    rw [e]
    exact least_no A C c d _ _ w (by rw [wor_len]; omega) (by rw [wor_len]; omega) hl

/-- a new list of integers, an integer and a bool. -/
def RetSIB (w : World) (zs : List Int) (x : Int) (b : Bool) (e : Ending) (w' : World) : Prop := ∃ A c, e = .returned (.tuple #[.slice A zs.length c, .int .i64 x, .bool b]) ∧ IR w' w.heap.size A c zs ∧ Below w.heap.size w w'
/-- an amount in a scale: what holds of the scale and of the least units. -/
def RetAm (w : World) (rs : List Int) (n : Int) (e : Ending) (w' : World) : Prop := ∃ A c m, e = .returned (.tuple #[.slice A m c, .int .i64 (pos0 n), .bool (nng n)]) ∧ Below w.heap.size w w' ∧ (0 ≤ n → m = (wor rs).length ∧ RD .i64 w' w'.heap.size A (wor rs))

theorem lst_inv {rs ns : List Int} (h : vldR rs = false) : lst rs ns = -1 := by rw [lst, if_neg (by simp [h])]

set_option maxHeartbeats 400000 in
theorem amountIn_any (A C : Option Addr) (c d : Nat) (rs ns : List Int) (w : World) (hA : RD .i64 w w.heap.size A rs) (hl : rs.length ≤ 1048576) (hC : RD .i64 w w.heap.size C ns) (hl2 : ns.length ≤ 1048576) :
    Calls Try.prog 51 #[.agg #[.slice A rs.length c], .slice C ns.length d] w (RetAm w rs (lst rs ns)) := by
  go_enter Try.func51, Try.ntmps51
  go_wp2_with fail
  refine (scaleOf_any A c rs _ (hA.new _) hl).mono ?_
  rintro e w1 ⟨A1, c1, rfl, hi1, hb1⟩
  have hbb := below_then (below_new w _) hb1
  cases hv : vldR rs with
  | true =>
    rw [mw_yes hv] at hi1 ⊢
    have HV := Lib.hid hv
    clear hv
    go_wp2_with fail
    refine (least_at A1 C c1 d _ rs ns _ HV.out rfl hi1.rd (hC.to hbb) hl2).mono ?_
    rintro e w' ⟨rfl, rfl⟩
    unfold lstV
    go_wp2_with fail
    go_ret3
    exact ⟨A1, c1, _, rfl, hbb, fun _ => ⟨rfl, hi1.rd⟩⟩
  | false =>
    have HL := Lib.hid (lst_inv (ns := ns) hv)
    clear hv
    go_wp2_with fail
    go_ret3
    rw [HL.out]
    exact ⟨none, 0, 0, rfl, hbb, fun h => absurd h (by decide)⟩

/-- two amounts in a scale. -/
def RetAm2 (w : World) (rs : List Int) (x y : Int) (e : Ending) (w' : World) : Prop := ∃ A c m, e = .returned (.tuple #[.slice A m c, .int .i64 (pos0 x), .int .i64 (pos0 y), .bool (nng x && nng y)]) ∧ Below w.heap.size w w' ∧ (0 ≤ x → m = (wor rs).length ∧ RD .i64 w' w'.heap.size A (wor rs))

set_option maxHeartbeats 400000 in
theorem amountsIn_any (A C D : Option Addr) (c d d2 : Nat) (rs ns ms : List Int) (w : World) (hA : RD .i64 w w.heap.size A rs) (hl : rs.length ≤ 1048576) (hC : RD .i64 w w.heap.size C ns) (hl2 : ns.length ≤ 1048576) (hD : RD .i64 w w.heap.size D ms) (hl3 : ms.length ≤ 1048576) :
    Calls Try.prog 55 #[.agg #[.slice A rs.length c], .slice C ns.length d, .slice D ms.length d2] w (RetAm2 w rs (lst rs ns) (lst rs ms)) := by
  go_enter Try.func55, Try.ntmps55
  go_wp2_with fail
  refine (amountIn_any A C c d rs ns _ (hA.new _) hl (hC.new _) hl2).mono ?_
  rintro e w1 ⟨A1, c1, m1, rfl, hb1, hs1⟩
  have hbb := below_then (below_new w _) hb1
  have HS1 := Lib.hid hs1
  clear hs1
  have hc1 : w1.cell? ⟨w.heap.size, 0, none⟩ = some (.slice A rs.length c) := (hb1.cell (p := ⟨w.heap.size, 0, none⟩) (by simp)).trans (by simp)
  have HX := Lib.hid (show lst rs ns = lst rs ns from rfl)
  have HY := Lib.hid (show lst rs ms = lst rs ms from rfl)
  generalize lst rs ns = x at *
  cases hp : nng x
  all_goals
    have HP := Lib.hid hp
    go_wp2_with fail
    refine (amountIn_any A D c d2 rs ms _ (hA.to hbb) hl (hD.to hbb) hl3).mono ?_
    rintro e w2 ⟨A2, c2, m2, rfl, hb2, -⟩
    generalize lst rs ms = y at *
    have hbz := below_then hbb hb2
    go_wp2_with fail
    refine bodyPost_ret (res4 rfl _ _ _) rfl ?_
    refine ⟨A1, c1, m1, by rw [HP.out]; rfl, hbz, fun h => ⟨(HS1.out h).1, (HS1.out h).2.to hb2⟩⟩
theorem iMeasureValid_any (A : Option Addr) (c : Nat) (rs : List Int) (w : World) (hA : RD .i64 w w.heap.size A rs) (hl : rs.length ≤ 1048576) :
    Calls Try.prog 18 #[.agg #[.slice A rs.length c]] w fun e w' => e = .returned (.bool (vldR rs)) ∧ Below w.heap.size w w' := by
  go_enter Try.func18, Try.ntmps18
  go_wp2_with fail
  refine (scaleOf_any A c rs _ (hA.new _) hl).mono ?_
  rintro e w1 ⟨A1, c1, rfl, hi1, hb1⟩
  have hbb := below_then (below_new w _) hb1
  go_wp2_with fail
  go_ret
  exact ⟨rfl, hbb⟩
theorem iMeasureWorths_any (A : Option Addr) (c : Nat) (rs : List Int) (w : World) (hA : RD .i64 w w.heap.size A rs) (hl : rs.length ≤ 1048576) :
    Calls Try.prog 21 #[.agg #[.slice A rs.length c]] w (RetInts w (mw rs)) := by
  go_enter Try.func21, Try.ntmps21
  go_wp2_with fail
  refine (scaleOf_any A c rs _ (hA.new _) hl).mono ?_
  rintro e w1 ⟨A1, c1, rfl, hi1, hb1⟩
  have hbb := below_then (below_new w _) hb1
  cases hv : vldR rs with
  | true =>
    clear hv
    go_wp2_with fail
    go_ret
    exact ⟨A1, c1, rfl, hi1.from_ (below_new w _), hbb⟩
  | false =>
    have HV := Lib.hid (mw_no hv)
    clear hv
    go_wp2_with fail
    go_ret
    rw [HV.out]
    exact ⟨none, 0, rfl, IR.nil_ _ _, hbb⟩
theorem iAmountValid_any (A C : Option Addr) (c d : Nat) (rs ns : List Int) (w : World) (hA : RD .i64 w w.heap.size A rs) (hl : rs.length ≤ 1048576) (hC : RD .i64 w w.heap.size C ns) (hl2 : ns.length ≤ 1048576) :
    Calls Try.prog 30 #[.agg #[.slice A rs.length c], .slice C ns.length d] w fun e w' => e = .returned (.bool (nng (lst rs ns))) ∧ Below w.heap.size w w' := by
  obtain ⟨x, hx⟩ : ∃ x, lst rs ns = x := ⟨_, rfl⟩
  rw [hx]
  have HX := Lib.hid hx
  clear hx
  go_enter Try.func30, Try.ntmps30
  go_wp2_with fail
  refine (amountIn_any A C c d rs ns _ (hA.new _) hl (hC.new _) hl2).mono ?_
  rintro e w1 ⟨A1, c1, m1, rfl, hb1, -⟩
  have hbb := below_then (below_new w _) hb1
  rw [HX.out]
  go_wp2_with fail
  go_ret
  exact ⟨rfl, hbb⟩
theorem iAmountLeast_any (A C : Option Addr) (c d : Nat) (rs ns : List Int) (w : World) (hA : RD .i64 w w.heap.size A rs) (hl : rs.length ≤ 1048576) (hC : RD .i64 w w.heap.size C ns) (hl2 : ns.length ≤ 1048576) :
    Calls Try.prog 34 #[.agg #[.slice A rs.length c], .slice C ns.length d] w fun e w' => e = .returned (.int .i64 (lst rs ns)) ∧ Below w.heap.size w w' := by
  have hbd := lst_bd rs ns
  obtain ⟨x, hx⟩ : ∃ x, lst rs ns = x := ⟨_, rfl⟩
  rw [hx]
  rw [hx] at hbd
  have HX := Lib.hid hx
  clear hx
  go_enter Try.func34, Try.ntmps34
  go_wp2_with fail
  refine (amountIn_any A C c d rs ns _ (hA.new _) hl (hC.new _) hl2).mono ?_
  rintro e w1 ⟨A1, c1, m1, rfl, hb1, -⟩
  have hbb := below_then (below_new w _) hb1
  rw [HX.out]
  by_cases hx : 0 ≤ x
  · rw [pos0_yes hx, nng_yes hx]
    go_wp2_with fail
    go_ret
    exact ⟨rfl, hbb⟩
  · obtain rfl : x = -1 := by omega
    rw [pos0_no (by omega), nng_no (by omega)]
    go_wp2_with fail
    go_ret
    exact ⟨rfl, hbb⟩
theorem iAmountOf_any (A : Option Addr) (c : Nat) (rs : List Int) (n : Int) (w : World) (hA : RD .i64 w w.heap.size A rs) (hl : rs.length ≤ 1048576) :
    Calls Try.prog 32 #[.agg #[.slice A rs.length c], .int .i64 n] w (RetIB w (aoZ rs n) (aoB rs n)) := by
  go_enter Try.func32, Try.ntmps32
  go_wp2_with fail
  refine (scaleOf_any A c rs _ (hA.new _) hl).mono ?_
  rintro e w1 ⟨A1, c1, rfl, hi1, hb1⟩
  have hbb := below_then (below_new w _) hb1
  cases hv : vldR rs with
  | true =>
    rw [mw_yes hv] at hi1 ⊢
    have HV := Lib.hid hv
    clear hv
    go_wp2_with fail
    refine (proper_at A1 c1 _ rs n _ HV.out rfl hi1.rd).mono ?_
    rintro e w2 ⟨A2, c2, rfl, hi2, hb2⟩
    go_wp2_with fail
    go_ret2
    exact ⟨A2, c2, rfl, hi2.from_ hbb, below_then hbb hb2⟩
  | false =>
    have HV := Lib.hid (aoB_inv (n := n) hv)
    clear hv
    go_wp2_with fail
    go_ret2
    rw [aoZ_no HV.out, HV.out]
    exact ⟨none, 0, rfl, IR.nil_ _ _, hbb⟩
/-- what comes of a number of least units that stands only where a condition holds. -/
theorem retIB_none {w w' : World} {rs : List Int} {n : Int} (hn : n < 0) (hb : Below w.heap.size w w') : RetIB w (aoZ rs n) (aoB rs n) (.returned (.tuple #[.slice none 0 0, .bool false])) w' := by
  rw [aoZ_no (aoB_bad (.inl hn)), aoB_bad (.inl hn)]
  exact ⟨none, 0, rfl, IR.nil_ _ _, hb⟩
theorem iAmountProper_any (A C : Option Addr) (c d : Nat) (rs ns : List Int) (w : World) (hA : RD .i64 w w.heap.size A rs) (hl : rs.length ≤ 1048576) (hC : RD .i64 w w.heap.size C ns) (hl2 : ns.length ≤ 1048576) :
    Calls Try.prog 39 #[.agg #[.slice A rs.length c], .slice C ns.length d] w (RetIB w (aoZ rs (lst rs ns)) (aoB rs (lst rs ns))) := by
  have HV := Lib.hid (fun h => (lst_vld (rs := rs) (list := ns) h).1)
  obtain ⟨x, hx⟩ : ∃ x, lst rs ns = x := ⟨_, rfl⟩
  rw [hx]
  rw [hx] at HV
  have HX := Lib.hid hx
  clear hx
  go_enter Try.func39, Try.ntmps39
  go_wp2_with fail
  refine (amountIn_any A C c d rs ns _ (hA.new _) hl (hC.new _) hl2).mono ?_
  rintro e w1 ⟨A1, c1, m1, rfl, hb1, hs⟩
  have hbb := below_then (below_new w _) hb1
  rw [HX.out]
  rw [HX.out] at hs
  by_cases hx : 0 ≤ x
  · obtain ⟨rfl, hS⟩ := hs hx
    rw [pos0_yes hx, nng_yes hx]
    go_wp2_with fail
    refine (proper_at A1 c1 _ rs x _ (HV.out hx) rfl hS).mono ?_
    rintro e w2 ⟨A2, c2, rfl, hi2, hb2⟩
    go_wp2_with fail
    go_ret2
    exact ⟨A2, c2, rfl, hi2.from_ hbb, below_then hbb hb2⟩
  · have hx' : x < 0 := by omega
    rw [nng_no hx']
    clear hs
    go_wp2_with fail
    go_ret2
    exact retIB_none hx' hbb
/-- two amounts together. -/
def addN (x y : Int) : Int := if 0 ≤ x ∧ 0 ≤ y then x + y else -1
def takeN (x y : Int) : Int := if 0 ≤ x ∧ 0 ≤ y then x - y else -1
def timesN (x n : Int) : Int := if 0 ≤ x ∧ 0 ≤ n ∧ n ≤ 100000 then x * n else -1
def convN (v : Bool) (x a b : Int) : Int := if 0 ≤ x ∧ v = true ∧ 1 ≤ a ∧ a ≤ 1000 ∧ 1 ≤ b ∧ b ≤ 1000 then x * b / a else -1
/-- how two amounts stand to one another. -/
def ordN (x y : Int) : Int := if 0 ≤ x ∧ 0 ≤ y then (if x < y then -1 else if y < x then 1 else 0) else 0
theorem ordN_lt {x y : Int} (hx : 0 ≤ x) (hy : 0 ≤ y) (h : x < y) : ordN x y = -1 := by rw [ordN, if_pos ⟨hx, hy⟩, if_pos h]
theorem ordN_gt {x y : Int} (hx : 0 ≤ x) (hy : 0 ≤ y) (h : y < x) : ordN x y = 1 := by rw [ordN, if_pos ⟨hx, hy⟩, if_neg (by omega), if_pos h]
theorem ordN_eq {x y : Int} (hx : 0 ≤ x) (hy : 0 ≤ y) (h : ¬ x < y) (h2 : ¬ y < x) : ordN x y = 0 := by rw [ordN, if_pos ⟨hx, hy⟩, if_neg h, if_neg h2]
theorem ordN_no {x y : Int} (h : ¬ (0 ≤ x ∧ 0 ≤ y)) : ordN x y = 0 := if_neg h
set_option maxHeartbeats 400000 in
theorem iAmountOrder_any (A C D : Option Addr) (c d d2 : Nat) (rs ns ms : List Int) (w : World) (hA : RD .i64 w w.heap.size A rs) (hl : rs.length ≤ 1048576) (hC : RD .i64 w w.heap.size C ns) (hl2 : ns.length ≤ 1048576) (hD : RD .i64 w w.heap.size D ms) (hl3 : ms.length ≤ 1048576) :
    Calls Try.prog 37 #[.agg #[.slice A rs.length c], .slice C ns.length d, .slice D ms.length d2] w fun e w' => e = .returned (.tuple #[.int .i64 (ordN (lst rs ns) (lst rs ms)), .bool (nng (lst rs ns) && nng (lst rs ms))]) ∧ Below w.heap.size w w' := by
  obtain ⟨x, hx⟩ : ∃ x, lst rs ns = x := ⟨_, rfl⟩
  obtain ⟨y, hy⟩ : ∃ y, lst rs ms = y := ⟨_, rfl⟩
  rw [hx, hy]
  have HX := Lib.hid hx
  clear hx
  have HY := Lib.hid hy
  clear hy
  go_enter Try.func37, Try.ntmps37
  go_wp2_with fail
  refine (amountsIn_any A C D c d d2 rs ns ms _ (hA.new _) hl (hC.new _) hl2 (hD.new _) hl3).mono ?_
  rintro e w1 ⟨A1, c1, m1, rfl, hb1, -⟩
  have hbb := below_then (below_new w _) hb1
  rw [HX.out, HY.out]
  by_cases hx : 0 ≤ x
  · by_cases hy : 0 ≤ y
    · rw [pos0_yes hx, nng_yes hx, pos0_yes hy, nng_yes hy]
      by_cases h1 : x < y
      · go_wp2_with fail
        go_ret2
        exact ⟨by rw [ordN_lt hx hy h1, nng_yes hx, nng_yes hy]; rfl, hbb⟩
      · by_cases h2 : y < x
        · go_wp2_with fail
          go_ret2
          exact ⟨by rw [ordN_gt hx hy h2, nng_yes hx, nng_yes hy]; rfl, hbb⟩
        · go_wp2_with fail
          go_ret2
          exact ⟨by rw [ordN_eq hx hy (by omega) (by omega), nng_yes hx, nng_yes hy]; rfl, hbb⟩
    · rw [nng_no (show y < 0 by omega), Bool.and_false]
      go_wp2_with fail
      go_ret2
      exact ⟨by rw [ordN_no (by omega), nng_no (show y < 0 by omega), Bool.and_false]; rfl, hbb⟩
  · rw [nng_no (show x < 0 by omega), Bool.false_and]
    go_wp2_with fail
    go_ret2
    exact ⟨by rw [ordN_no (by omega), nng_no (show x < 0 by omega), Bool.false_and]; rfl, hbb⟩
set_option maxHeartbeats 400000 in
theorem iAmountTimes_any (A C : Option Addr) (c d : Nat) (rs ns : List Int) (n : Int) (w : World) (hA : RD .i64 w w.heap.size A rs) (hl : rs.length ≤ 1048576) (hC : RD .i64 w w.heap.size C ns) (hl2 : ns.length ≤ 1048576) :
    Calls Try.prog 42 #[.agg #[.slice A rs.length c], .slice C ns.length d, .int .i64 n] w (RetIB w (aoZ rs (timesN (lst rs ns) n)) (aoB rs (timesN (lst rs ns) n))) := by
  have HV := Lib.hid (fun h => (lst_vld (rs := rs) (list := ns) h).1)
  have hb1 := lst_bd rs ns
  obtain ⟨x, hx⟩ : ∃ x, lst rs ns = x := ⟨_, rfl⟩
  rw [hx]
  rw [hx] at HV
  rw [hx] at hb1
  have HX := Lib.hid hx
  clear hx
  go_enter Try.func42, Try.ntmps42
  go_wp2_with fail
  refine (amountIn_any A C c d rs ns _ (hA.new _) hl (hC.new _) hl2).mono ?_
  rintro e w1 ⟨A1, c1, m1, rfl, hb1, hs⟩
  have hbb := below_then (below_new w _) hb1
  rw [HX.out]
  rw [HX.out] at hs
  by_cases hx : 0 ≤ x
  · rw [pos0_yes hx, nng_yes hx]
    by_cases hn : 0 ≤ n
    · by_cases hn2 : n ≤ 100000
      · obtain ⟨rfl, hS⟩ := hs hx
        have HE := Lib.hid (show timesN x n = x * n from if_pos ⟨hx, hn, hn2⟩)
        have hm1 := Int.mul_le_mul (show x ≤ 1000000000 by omega) hn2 hn (by decide)
        have hm0 := Int.mul_nonneg hx hn
        have hm2 : x * n ≤ 100000000000000 := hm1
        clear hs hm1
        go_wp2_with fail
        refine (proper_at A1 c1 _ rs (x * n) _ (HV.out hx) rfl hS).mono ?_
        rintro e w2 ⟨A2, c2, rfl, hi2, hb2⟩
        go_wp2_with fail
        go_ret2
        rw [HE.out]
        exact ⟨A2, c2, rfl, hi2.from_ hbb, below_then hbb hb2⟩
      · have HE := Lib.hid (show timesN x n = -1 from if_neg (by omega))
        clear hs
        go_wp2_with fail
        go_ret2
        rw [HE.out]
        exact retIB_none (by omega) hbb
    · have HE := Lib.hid (show timesN x n = -1 from if_neg (by omega))
      clear hs
      go_wp2_with fail
      go_ret2
      rw [HE.out]
      exact retIB_none (by omega) hbb
  · have HE := Lib.hid (show timesN x n = -1 from if_neg (by omega))
    rw [nng_no (show x < 0 by omega)]
    clear hs
    go_wp2_with fail
    go_ret2
    rw [HE.out]
    exact retIB_none (by omega) hbb
/-- two new lists of integers and a bool. -/
def RetIIB (w : World) (zs ys : List Int) (b : Bool) (e : Ending) (w' : World) : Prop := ∃ A c D d, e = .returned (.tuple #[.slice A zs.length c, .slice D ys.length d, .bool b]) ∧ IR w' w.heap.size A c zs ∧ IR w' w.heap.size D d ys ∧ (∀ g, A.map (·.block) = some g → D.map (·.block) ≠ some g) ∧ Below w.heap.size w w'
/-- whether an amount is shared. -/
def shB (x n : Int) : Bool := nng x && (decide (1 ≤ n) && decide (n ≤ 100000))
theorem shB_iff {x n : Int} : shB x n = true ↔ 0 ≤ x ∧ 1 ≤ n ∧ n ≤ 100000 := by simp [shB, nng]
def shZ (rs : List Int) (x n k : Int) : List Int := if shB x n then prp (wor rs) k else []
theorem shZ_yes {rs : List Int} {x n k : Int} (h : shB x n = true) : shZ rs x n k = prp (wor rs) k := if_pos h
theorem shZ_no {rs : List Int} {x n k : Int} (h : shB x n = false) : shZ rs x n k = [] := if_neg (by simp [h])
theorem shB_yes {x n : Int} (h0 : 0 ≤ x) (h1 : 1 ≤ n) (h2 : n ≤ 100000) : shB x n = true := shB_iff.2 ⟨h0, h1, h2⟩
theorem shB_no {x n : Int} (h : ¬ (0 ≤ x ∧ 1 ≤ n ∧ n ≤ 100000)) : shB x n = false := by
  rw [Bool.eq_false_iff]; intro h'; exact h (shB_iff.1 h')
theorem retIIB_none {w w' : World} {rs : List Int} {x n : Int} (hn : ¬ (0 ≤ x ∧ 1 ≤ n ∧ n ≤ 100000)) (hb : Below w.heap.size w w') : RetIIB w (shZ rs x n (x / n)) (shZ rs x n (x % n)) (shB x n) (.returned (.tuple #[.slice none 0 0, .slice none 0 0, .bool false])) w' := by
  rw [shZ_no (shB_no hn), shZ_no (shB_no hn), shB_no hn]
  exact ⟨none, 0, none, 0, rfl, IR.nil_ _ _, IR.nil_ _ _, (fun g h => by cases h), hb⟩
set_option maxHeartbeats 1000000 in
theorem iAmountConvert_any (A C D : Option Addr) (c d c2 : Nat) (rs ns ts : List Int) (a b : Int) (w : World) (hA : RD .i64 w w.heap.size A rs) (hl : rs.length ≤ 1048576) (hC : RD .i64 w w.heap.size C ns) (hl2 : ns.length ≤ 1048576) (hD : RD .i64 w w.heap.size D ts) (hl3 : ts.length ≤ 1048576) :
    Calls Try.prog 44 #[.agg #[.slice A rs.length c], .slice C ns.length d, .agg #[.slice D ts.length c2], .int .i64 a, .int .i64 b] w (RetIB w (aoZ ts (convN (vldR ts) (lst rs ns) a b)) (aoB ts (convN (vldR ts) (lst rs ns) a b))) := by
  have hb1 := lst_bd rs ns
  obtain ⟨x, hx⟩ : ∃ x, lst rs ns = x := ⟨_, rfl⟩
  rw [hx]
  rw [hx] at hb1
  have HX := Lib.hid hx
  clear hx
  go_enter Try.func44, Try.ntmps44
  go_wp2_with fail
  have hb0 := below_then (below_new w (.cells #[.slice A rs.length c] 27)) (below_new _ (.cells #[.slice D ts.length c2] 27))
  refine (amountIn_any A C c d rs ns _ (hA.to hb0) hl (hC.to hb0) hl2).mono ?_
  rintro e w1 ⟨A1, c1, m1, rfl, hb1, -⟩
  have hbb := below_then hb0 hb1
  have hc1 : w1.cell? ⟨w.heap.size + 1, 0, none⟩ = some (.slice D ts.length c2) := (hb1.cell (p := ⟨w.heap.size + 1, 0, none⟩) (by simp)).trans (by simp)
  rw [HX.out]
  go_wp2_with fail
  refine (scaleOf_any D c2 ts _ (hD.to hbb) hl3).mono ?_
  rintro e w2 ⟨A2, c3, rfl, hi2, hb2⟩
  have hbc := below_then hbb hb2
  by_cases hc : 0 ≤ x ∧ vldR ts = true ∧ 1 ≤ a ∧ a ≤ 1000 ∧ 1 ≤ b ∧ b ≤ 1000
  · have HE := Lib.hid (show convN (vldR ts) x a b = x * b / a from if_pos hc)
    obtain ⟨hx, hv, a1, a2, b1, b2⟩ := hc
    rw [pos0_yes hx, nng_yes hx, hv]
    rw [mw_yes hv] at hi2 ⊢
    have hm1 := Int.mul_le_mul (show x ≤ 1000000000 by omega) b2 (by omega) (by decide)
    have hm0 := Int.mul_nonneg hx (show 0 ≤ b by omega)
    have hm2 : x * b ≤ 1000000000000 := hm1
    have HV := Lib.hid hv
    clear hm1 hv
    have ha0 : ¬ a = 0 := by omega
    go_wp2_with fail
    refine (proper_at A2 c3 _ ts (x * b / a) _ HV.out rfl hi2.rd).mono ?_
    rintro e w3 ⟨A3, c4, rfl, hi3, hb3⟩
    go_wp2_with fail
    go_ret2
    rw [HE.out]
    exact ⟨A3, c4, rfl, hi3.from_ hbc, below_then hbc hb3⟩
  · have HE := Lib.hid (show convN (vldR ts) x a b = -1 from if_neg hc)
    by_cases hx : 0 ≤ x
    · rw [pos0_yes hx, nng_yes hx]
      cases hv : vldR ts with
      | false =>
        clear hv
        go_wp2_with fail
        go_ret2
        rw [HE.out]
        exact retIB_none (by omega) hbc
      | true =>
        have hc' : ¬ (1 ≤ a ∧ a ≤ 1000 ∧ 1 ≤ b ∧ b ≤ 1000) := fun h => hc ⟨hx, hv, h⟩
        clear hv hc
        by_cases h1 : a < 1
        · go_wp2_with fail
          go_ret2
          rw [HE.out]
          exact retIB_none (by omega) hbc
        · by_cases h2 : 1000 < a
          · go_wp2_with fail
            go_ret2
            rw [HE.out]
            exact retIB_none (by omega) hbc
          · by_cases h3 : b < 1
            · go_wp2_with fail
              go_ret2
              rw [HE.out]
              exact retIB_none (by omega) hbc
            · have h4 : 1000 < b := by omega
              clear hc'
              go_wp2_with fail
              go_ret2
              rw [HE.out]
              exact retIB_none (by omega) hbc
    · rw [nng_no (show x < 0 by omega)]
      clear hc
      go_wp2_with fail
      go_ret2
      rw [HE.out]
      exact retIB_none (by omega) hbc

end Go.Proofs.Ytmcooaopbigebaa
