/- The walks of chains: hasChain, chainFrom, told, ChainOf, ChainCommon of the program and of the reference, and of the laws over them. No condition. -/
import Derived.Test.YtomojiipgabhfaaChP
import Derived.Test.YtomojiipgabhfaaHasRt
import Derived.Test.YtomojiipgabhfaaInts
namespace Go.Proofs.Ytomojiipgabhfaa
open Go.RowKit
set_option linter.unusedVariables false

theorem hasChain_yes (a b : Int) (w : World) (a0 : 0 ≤ a) (a1 : a ≤ 1000000000) (b0 : 0 ≤ b) (b1 : b ≤ 1000000000) (hne : 0 < a ∨ 0 < b) :
    Calls Try.prog 38 #[.int .i64 a, .int .i64 b] w fun e w' => e = .returned (.bool true) ∧ w = w' := by
  by_cases h : 0 < a
  · have h1 : (a != 0) = true := by simp; omega
    go_enter Try.func38, Try.ntmps38
    go_wp2_with (go_at_call 30; refine (hasRoot_yes _ _ (by omega) (by omega)).mono ?_; rintro e w' ⟨rfl, rfl⟩)
    go_ret
    exact ⟨rfl, rfl⟩
  · obtain rfl : a = 0 := by omega
    have h1 : (b != 0) = true := by simp; omega
    go_enter Try.func38, Try.ntmps38
    go_wp2_with (go_at_call 30; refine (hasRoot_yes _ _ (by omega) (by omega)).mono ?_; rintro e w' ⟨rfl, rfl⟩)
    go_ret
    exact ⟨ret_bool (by simp_all), rfl⟩
theorem hasChain_no (a b : Int) (w : World) (h : ¬ (0 ≤ a ∧ a ≤ 1000000000 ∧ 0 ≤ b ∧ b ≤ 1000000000 ∧ (0 < a ∨ 0 < b))) :
    Calls Try.prog 38 #[.int .i64 a, .int .i64 b] w fun e w' => e = .returned (.bool false) ∧ w = w' := by
  by_cases h1 : 0 ≤ a ∧ a ≤ 1000000000
  · by_cases h2 : 0 ≤ b ∧ b ≤ 1000000000
    · obtain rfl : a = 0 := by omega
      obtain rfl : b = 0 := by omega
      go_enter Try.func38, Try.ntmps38
      go_wp2_with (go_at_call 30; refine (hasRoot_yes _ _ (by omega) (by omega)).mono ?_; rintro e w' ⟨rfl, rfl⟩)
      go_ret
      exact ⟨rfl, rfl⟩
    · go_enter Try.func38, Try.ntmps38
      go_wp2_with fail
      refine (hasRoot_yes _ _ h1.1 h1.2).mono ?_
      rintro e w' ⟨rfl, rfl⟩
      go_wp2_with fail
      refine (hasRoot_no _ _ (by omega)).mono ?_
      rintro e w' ⟨rfl, rfl⟩
      go_wp2_with fail
      go_ret
      exact ⟨rfl, rfl⟩
  · go_enter Try.func38, Try.ntmps38
    go_wp2_with fail
    refine (hasRoot_no _ _ (by omega)).mono ?_
    rintro e w' ⟨rfl, rfl⟩
    go_wp2_with fail
    go_ret
    exact ⟨rfl, rfl⟩

/-- the chain as the program holds it. -/
def chV (l : List Int) (g : Int) : Value := l.foldr (fun q c => .iface 65 (.agg #[.int .i64 q, c])) (.iface 67 (.agg #[.int .i64 g]))
theorem chV_nil (g : Int) : chV [] g = .iface 67 (.agg #[.int .i64 g]) := rfl
theorem chV_cons (q : Int) (l : List Int) (g : Int) : chV (q :: l) g = .iface 65 (.agg #[.int .i64 q, chV l g]) := rfl

theorem chV_iface (l : List Int) (g : Int) : ∃ T x, chV l g = .iface T x := by
  cases l with
  | nil => exact ⟨_, _, rfl⟩
  | cons q l => exact ⟨_, _, rfl⟩

set_option maxHeartbeats 400000 in
theorem chainFrom_any (f : Nat) : ∀ (a b : Int) (w : World), 0 ≤ a → a ≤ 1000000000 → 0 ≤ b → b ≤ 1000000000 → b < f →
    Calls Try.prog 40 #[.int .i64 a, .int .i64 b] w fun e w' => e = .returned (chV (qs a b) (gc a b)) ∧ ∃ n, w' = w.drewN n := by
  induction f with
  | zero => intro a b w h0 h1 h2 h3 h4; omega
  | succ f ih =>
    intro a b w h0 h1 h2 h3 h4
    have HI := Lib.hid ih
    clear ih
    by_cases h : 0 < b
    · have m1 := Int.emod_nonneg a (show b ≠ 0 by omega)
      have m2 := Int.emod_lt_of_pos a h
      have hb0 : (b == 0) = false := by simp; omega
      have hb1 : ¬ b = 0 := by omega
      have hq := IntWalk.i64_quo a b ⟨by omega, by omega, by omega⟩
      have hr : IntKind.i64.wrap (a.tmod b) = a % b := by rw [Int.tmod_eq_emod_of_nonneg (by omega)]; exact IntWalk.i64_in _ (by omega)
      have hr' : a.tmod b = a % b := Int.tmod_eq_emod_of_nonneg (by omega)
      have HV := Lib.hid (show chV (qs a b) (gc a b) = .iface 65 (.agg #[.int .i64 (a / b), chV (qs b (a % b)) (gc b (a % b))]) by rw [qs_pos a h, gc_pos a h, chV_cons])
      have hrec : ∀ W, Calls Try.prog 40 #[.int .i64 b, .int .i64 (a % b)] W fun e w' => e = .returned (chV (qs b (a % b)) (gc b (a % b))) ∧ ∃ n, w' = W.drewN n := fun W => HI.out b (a % b) W (by omega) (by omega) (by omega) (by omega) (by omega)
      obtain ⟨T, x, hx⟩ := chV_iface (qs b (a % b)) (gc b (a % b))
      rw [hx] at HV hrec
      have HC := Lib.hid hrec
      clear hrec hx
      go_enter Try.func40, Try.ntmps40
      go_wp2_with fail
      go_quiet ((go_at_call 40; exact Calls.quiet_of (HC.out _)))
      go_wp2_with fail
      go_ret
      exact ⟨by rw [HV.out]; rfl, _, rfl⟩
    · obtain rfl : b = 0 := by omega
      go_enter Try.func40, Try.ntmps40
      go_wp2_with fail
      go_ret
      exact ⟨rfl, 0, rfl⟩

theorem ir_empty0 (w : World) : IR (w.alloc (.cells #[] 3)) w.heap.size (some ⟨w.heap.size, 0, none⟩) 0 [] :=
  World.ownsRow_lit w #[] 0 (Nat.le_refl _) (by simp [maxLen]) rfl

theorem ta_link (v : Value) (W : World) : (Instr.typeAssert (.iface 65 v) 56 65 true).run Try.prog W = .ok (.tuple #[v, .bool true]) W := by kernel_rfl
theorem ta_no (v : Value) (W : World) : (Instr.typeAssert (.iface 67 v) 56 65 true).run Try.prog W = .ok (.tuple #[.agg #[.int .i64 0, .nilIface], .bool false]) W := by kernel_rfl
theorem ta_end (v : Value) (W : World) : (Instr.typeAssert (.iface 67 v) 56 67 true).run Try.prog W = .ok (.tuple #[v, .bool true]) W := by kernel_rfl

theorem told_cell {wr w2 : World} {A : Option Addr} {q : Int} {T : TypeId} {x : Value} {B : Nat} (hg : (wr.alloc (.cells #[.int .i64 q, .iface T x] 65)).grownBy w2 (A.map (·.block))) (hsp : ∀ g, A.map (·.block) = some g → B ≤ g ∧ g < wr.heap.size) :
    w2.cell? ⟨wr.heap.size, 1, none⟩ = some (.iface T x) := by
  have h1 : (wr.alloc (.cells #[.int .i64 q, .iface T x] 65)).cell? ⟨wr.heap.size, 1, none⟩ = some (.iface T x) := by simp
  rw [← h1]
  refine World.cell?_of_block (hg.block wr.heap.size (by simp) (fun e => ?_))
  have := hsp _ e.symm
  omega

set_option maxHeartbeats 1000000 in
theorem told_any (l : List Int) (g : Int) (w : World) (hl : l.length ≤ 1000) :
    Calls Try.prog 39 #[chV l g] w fun e w' => ∃ A c, e = .returned (.tuple #[.slice A l.length c, .int .i64 g]) ∧ IR w' w.heap.size A c l ∧ Below w.heap.size w w' := by
  go_enter Try.func39, Try.ntmps39
  go_wp2_with fail
  go_loopg [0, 4] l.length (fun k v s wr => ∃ (r d : List Int) (A : Option Addr) (c : Nat), r.length = k ∧ v = chV r g ∧ s = .slice A d.length c ∧ IR wr w.heap.size A c d ∧ Below w.heap.size w wr ∧ Hid (d ++ r = l))
  case atStart => exact ⟨l, [], _, _, rfl, rfl, rfl, ir_empty0 w, (Below.refl _ _).alloc (Nat.le_refl _) _, rfl⟩
  case round =>
    obtain ⟨r, d, A, c, hk, rfl, rfl, hown, hb, HL⟩ := hrel
    have hdl : d.length ≤ 1000 := by have := congrArg List.length HL.out; simp at this; omega
    have HK := Lib.hid hk
    clear hk
    cases r with
    | nil =>
      rw [chV_nil]
      have t1 := ta_no (.agg #[.int .i64 g])
      have t2 := ta_end (.agg #[.int .i64 g])
      go_wp2_with fail
      go_quiet (fail)
      go_wp2_with fail
      go_ret2
      refine ⟨A, c, ?_, ?_, below_drewN (hb.alloc hb.size _) _⟩
      · have := HL.out
        simp at this
        rw [this]
        rfl
      · have := HL.out
        simp at this
        rw [← this]
        exact (hown.alloc _).drewN _
    | cons q r =>
      rw [chV_cons]
      obtain ⟨T, x, hx⟩ := chV_iface r g
      have HX := Lib.hid hx
      rw [hx]
      clear hx
      have t1 := ta_link (.agg #[.int .i64 q, .iface T x])
      have hsp := hown.span
      have hbs := hb.size
      go_wp2_with (at_builtin; refine wpList_push rfl _ _ rfl w.heap.size A c d _ rfl rfl (hown.alloc _) _ rfl (by simp) (by omega) (by simp; omega) ?_; intro A' c' w2 hown2 hg2 hb2 hout2; have hcell := told_cell hg2 hsp)
      go_roundg r.length
      case measure => have := HK.out; simp at this; omega
      case rel => exact ⟨r, d ++ [q], A', c', rfl, HX.out.symm, by simp, hown2, (hb.alloc hbs _).trans hb2, by show (d ++ [q]) ++ r = l; have := HL.out; simpa using this⟩

theorem iChainOf_no (a b : Int) (w : World) (h : ¬ (0 ≤ a ∧ a ≤ 1000000000 ∧ 0 ≤ b ∧ b ≤ 1000000000 ∧ (0 < a ∨ 0 < b))) :
    Calls Try.prog 22 #[.int .i64 a, .int .i64 b] w (RetIB w [] false) := by
  have H := Lib.hid h
  clear h
  go_enter Try.func22, Try.ntmps22
  go_wp2_with fail
  refine (hasChain_no _ _ _ H.out).mono ?_
  rintro e w' ⟨rfl, rfl⟩
  go_wp2_with fail
  go_ret2
  exact ⟨_, _, rfl, IR.nil_ _ _, Below.refl _ _⟩
set_option maxHeartbeats 400000 in
theorem iChainOf_yes (a b : Int) (w : World) (a0 : 0 ≤ a) (a1 : a ≤ 1000000000) (b0 : 0 ≤ b) (b1 : b ≤ 1000000000) (hne : 0 < a ∨ 0 < b) :
    Calls Try.prog 22 #[.int .i64 a, .int .i64 b] w (RetIB w (qs a b) true) := by
  have HN := Lib.hid hne
  clear hne
  have hl := qs_len60 a b b0 (by omega)
  go_enter Try.func22, Try.ntmps22
  go_wp2_with fail
  refine (hasChain_yes _ _ _ a0 a1 b0 b1 HN.out).mono ?_
  rintro e w' ⟨rfl, rfl⟩
  go_wp2_with fail
  refine (chainFrom_any (b.toNat + 1) a b _ a0 a1 b0 b1 (by omega)).mono ?_
  rintro e w' ⟨rfl, n, rfl⟩
  go_wp2_with fail
  refine (told_any (qs a b) (gc a b) _ (by omega)).mono ?_
  rintro e w1 ⟨A, c, rfl, hown, hb⟩
  go_wp2_with fail
  go_ret2
  exact ⟨A, c, rfl, hown, ((Below.refl _ w).trans (below_drewN (Below.refl _ _) n)).trans hb⟩
set_option maxHeartbeats 400000 in
theorem sChainOf_no (a b : Int) (w : World) (h : ¬ (0 ≤ a ∧ a ≤ 1000000000 ∧ 0 ≤ b ∧ b ≤ 1000000000 ∧ (0 < a ∨ 0 < b))) :
    Calls Try.prog 23 #[.int .i64 a, .int .i64 b] w (RetIB w [] false) := by
  by_cases h1 : 0 ≤ a ∧ a ≤ 1000000000
  · by_cases h2 : 0 ≤ b ∧ b ≤ 1000000000
    · obtain rfl : a = 0 := by omega
      obtain rfl : b = 0 := by omega
      clear h
      go_enter Try.func23, Try.ntmps23
      go_wp2_with (go_at_call 31; refine (l6In_yes _ _ _ _ (by omega) (by omega)).mono ?_; rintro e w' ⟨rfl, rfl⟩)
      go_ret2
      exact ⟨_, _, rfl, ir_empty0 w, (Below.refl _ _).alloc (Nat.le_refl _) _⟩
    · go_enter Try.func23, Try.ntmps23
      go_wp2_with fail
      refine (l6In_yes _ _ _ _ h1.1 h1.2).mono ?_
      rintro e w' ⟨rfl, rfl⟩
      go_wp2_with fail
      refine (l6In_no _ _ _ _ (by omega)).mono ?_
      rintro e w' ⟨rfl, rfl⟩
      go_wp2_with fail
      go_ret2
      exact ⟨_, _, rfl, ir_empty0 w, (Below.refl _ _).alloc (Nat.le_refl _) _⟩
  · go_enter Try.func23, Try.ntmps23
    go_wp2_with fail
    refine (l6In_no _ _ _ _ (by omega)).mono ?_
    rintro e w' ⟨rfl, rfl⟩
    go_wp2_with fail
    go_ret2
    exact ⟨_, _, rfl, ir_empty0 w, (Below.refl _ _).alloc (Nat.le_refl _) _⟩
set_option maxHeartbeats 400000 in
theorem sChainOf_loop (a b : Int) (w : World) (a0 : 0 ≤ a) (a1 : a ≤ 1000000000) (b0 : 0 ≤ b) (b1 : b ≤ 1000000000) (hne : 0 < a ∨ 0 < b) :
    Calls Try.prog 23 #[.int .i64 a, .int .i64 b] w (RetIB w (qs a b) true) := by
  have HQ := Lib.hid (show [] ++ qs a b = qs a b by simp)
  have hl := qs_len60 a b b0 (by omega)
  have ht : ∃ x y : Bool, (a == 0) = x ∧ (b == 0) = y ∧ (x && y) = false := ⟨_, _, rfl, rfl, by
    rcases hne with h | h
    · have : (a == 0) = false := by simp; omega
      simp [this]
    · have : (b == 0) = false := by simp; omega
      simp [this]⟩
  obtain ⟨x, y, hx, hy, hxy⟩ := ht
  clear hne
  cases x <;> cases y <;> first | (simp at hxy; done) | skip
  all_goals
    clear hxy
    go_enter Try.func23, Try.ntmps23
    go_wp2_with (go_at_call 31; refine (l6In_yes _ _ _ _ (by omega) (by omega)).mono ?_; rintro e w' ⟨rfl, rfl⟩)
    clear hx hy
    go_loopw [0, 1, 6] (fun u v s wr => ∃ (m n : Int) (d : List Int) (A : Option Addr) (c : Nat), 0 ≤ m ∧ m ≤ 1000000000 ∧ 0 ≤ n ∧ n ≤ 1000000000 ∧ u = .int .i64 m ∧ v = .int .i64 n ∧ s = .slice A d.length c ∧ IR wr w.heap.size A c d ∧ Below w.heap.size w wr ∧ Hid (d ++ qs m n = qs a b)) (fun _ v _ _ => (intOf v).toNat)
    case atStart => exact ⟨a, b, [], _, _, a0, a1, b0, b1, rfl, rfl, rfl, ir_empty0 w, (Below.refl _ _).alloc (Nat.le_refl _) _, HQ⟩
    case round =>
      obtain ⟨m, n, d, A, c, m0, m1, n0, n1, rfl, rfl, rfl, hown, hb, HD⟩ := hrel
      have hdl : d.length ≤ 62 := by have := congrArg List.length HD.out; simp at this; omega
      by_cases h : 0 < n
      · have e1 := Int.emod_nonneg m (show n ≠ 0 by omega)
        have e2 := Int.emod_lt_of_pos m h
        have HD' := Lib.hid (show (d ++ [m / n]) ++ qs n (m % n) = qs a b by rw [← HD.out, qs_pos m h]; simp)
        go_wp2_with (at_builtin; refine wpList_push rfl _ _ rfl w.heap.size A c d _ rfl rfl hown _ rfl (by simp) (by omega) hb.size ?_; intro A' c' w2 hown2 hg2 hb2 hout2)
        go_roundw
        case rel => exact ⟨n, m % n, d ++ [m / n], A', c', n0, n1, e1, by omega, rfl, rfl, by simp, hown2, hb.trans hb2, HD'⟩
        case measure => simp [intOf] <;> omega
      · obtain rfl : n = 0 := by omega
        go_wp2_with fail
        go_ret2
        have := HD.out
        rw [qs_zero, List.append_nil] at this
        rw [← this]
        exact ⟨A, c, rfl, hown, hb⟩
theorem iChainCommon_no (a b : Int) (w : World) (h : ¬ (0 ≤ a ∧ a ≤ 1000000000 ∧ 0 ≤ b ∧ b ≤ 1000000000 ∧ (0 < a ∨ 0 < b))) :
    Calls Try.prog 25 #[.int .i64 a, .int .i64 b] w fun e w' => e = .returned (.int .i64 (-1)) ∧ w = w' := by
  have H := Lib.hid h
  clear h
  go_enter Try.func25, Try.ntmps25
  go_wp2_with fail
  refine (hasChain_no _ _ _ H.out).mono ?_
  rintro e w' ⟨rfl, rfl⟩
  go_wp2_with fail
  go_ret
  exact ⟨rfl, rfl⟩
set_option maxHeartbeats 400000 in
theorem iChainCommon_yes (a b : Int) (w : World) (a0 : 0 ≤ a) (a1 : a ≤ 1000000000) (b0 : 0 ≤ b) (b1 : b ≤ 1000000000) (hne : 0 < a ∨ 0 < b) :
    Calls Try.prog 25 #[.int .i64 a, .int .i64 b] w fun e w' => e = .returned (.int .i64 (gc a b)) ∧ Below w.heap.size w w' := by
  have HN := Lib.hid hne
  clear hne
  have hl := qs_len60 a b b0 (by omega)
  go_enter Try.func25, Try.ntmps25
  go_wp2_with fail
  refine (hasChain_yes _ _ _ a0 a1 b0 b1 HN.out).mono ?_
  rintro e w' ⟨rfl, rfl⟩
  go_wp2_with fail
  refine (chainFrom_any (b.toNat + 1) a b _ a0 a1 b0 b1 (by omega)).mono ?_
  rintro e w' ⟨rfl, n, rfl⟩
  go_wp2_with fail
  refine (told_any (qs a b) (gc a b) _ (by omega)).mono ?_
  rintro e w1 ⟨A, c, rfl, hown, hb⟩
  go_wp2_with fail
  go_ret
  exact ⟨rfl, ((Below.refl _ w).trans (below_drewN (Below.refl _ _) n)).trans hb⟩

end Go.Proofs.Ytomojiipgabhfaa
