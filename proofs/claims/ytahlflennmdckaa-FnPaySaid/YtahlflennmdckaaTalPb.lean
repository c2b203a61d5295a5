/- The walk of the reference's TalliesPay. -/
import Derived.Test.YtahlflennmdckaaTalPa
import Derived.Deep.RegionLaw
namespace Go.Proofs.Ytahlflennmdckaa
open Go.RowKit Go.PlainAid
set_option linter.unusedVariables false
set_option linter.unusedSimpArgs false

/-- append of any number of elements to a row of the call's own, as one step of a region that draws. -/
theorem step_append_any {ops : Array Oper} {o : Oper} {a : Act} {w : World} {K : Act → World → Prop} {Q : Exit → Act → World → Prop} {E : Prop} (hgd : o.guard = none) (s x : Operand)
    (ho : o.op = .call { callee := .builtin .append, args := #[s, x], argTypes := #[46, 46] })
    (base : Nat) (A : Option Addr) (c n : Nat) (xs : List Value) (hs : a.eval s = .slice A n c) (hown : OR w base 36 4 A c n xs)
    (ad : Addr) (m cx : Nat) (news : List Value) (hx : a.eval x = .slice (some ad) m cx) (hl : news.length = m * 4) (hnews : ∀ j u, news[j]? = some u → w.cell? (ad.add j) = some u) (h1 : ∀ u ∈ news, u.oneCell' = true)
    (hn : n ≤ 10000) (hm : m ≤ 10000) (hbase : base ≤ w.heap.size)
    (hK : ∀ A' c' w', OR w' base 36 4 A' c' (n + m) (xs ++ news) → w.grownBy w' (A.map (·.block)) → Below base w w' → K (a.put o.dst (.slice A' (n + m) c')) w') :
    if Region.wanted o (yielded ops a.tmps) = true then Oper.wp Try.prog o a w K Q else E := by
  have hw : Region.wanted o (yielded ops a.tmps) = true := by simp [Region.wanted, hgd]
  rw [if_pos hw]
  obtain ⟨i0, hi0, hz0, hz1, hz2⟩ := info_parts tally_info
  obtain ⟨v', w', hr, h2, h3, h4, h5⟩ := run_append_own_at (P := Try.prog) w base 46 o.type 36 i0 _ 4 48 Try.underlying46 hi0 hz0 hz1 hz2 rfl (by omega) _ n xs hown ad m cx news hl hnews h1 (by simp only [maxLen]; omega) (by omega) hbase
  have ev : ∃ A' c', v' = .slice A' (n + m) c' := by
    rcases h2.2 with ⟨e, h0⟩ | ⟨g, cap, cur, e, _⟩
    · exact ⟨none, 0, by rw [e, h0]⟩
    · exact ⟨_, _, e⟩
  obtain ⟨A', c', rfl⟩ := ev
  rw [ownBlock_slice] at h3
  have hb : Below base w w' := ⟨h3.os, h3.tape, h3.output, h3.size, fun k hk => h3.block k (by omega) (fun e => by
    have := OR.span hown k e.symm
    omega)⟩
  have := hK A' c' w' h2 h3 hb
  unfold Oper.wp
  simp [execOp, ho, resolve, invoke, builtin, hs, hx, hr, Result.andThen]
  exact this
theorem news_rc {w : World} {B g off : Nat} {cs : List Value} (h : RC w B (some ⟨g, off, none⟩) cs) : ∀ j u, cs[j]? = some u → w.cell? ((⟨g, off, none⟩ : Addr).add j) = some u := fun j u hu => by
  have hj : j < cs.length := (List.getElem?_eq_some_iff.1 hu).1
  obtain ⟨b', off', e, _, hc⟩ := h (by omega)
  injection e with e
  injection e with e1 e2
  subst e1 e2
  rw [add_none]
  exact hc j u hu
theorem tcells_one (ts : List Tal) : ∀ u ∈ tcells ts, u.oneCell' = true := fun u hu => by
  unfold tcells at hu
  rw [List.mem_flatMap] at hu
  obtain ⟨t, _, hu⟩ := hu
  simp at hu
  rcases hu with rfl | rfl | rfl | rfl <;> rfl

theorem rc_grown2 {w w4 : World} {B r : Nat} {A : Option Addr} {cs : List Value} (h : RC w B A cs) (hg : w.drew.grownBy w4 (some r)) (hr : B ≤ r) (hB : B ≤ w.heap.size) : RC w4 B A cs := fun hn => by
  obtain ⟨b, off, e, hb, hc⟩ := h hn
  exact ⟨b, off, e, hb, fun i v hi => (World.cell?_of_block (hg.block b (by show b < w.heap.size; omega) (by simp; omega))).trans (hc i v hi)⟩
theorem rc_dropk {w : World} {B g : Nat} {ts : List Tal} (h : RC w B (some ⟨g, 0, none⟩) (tcells ts)) (k : Nat) : RC w B (some ⟨g, k * 4, none⟩) (tcells (ts.drop k)) := by
  have := RC.drop h (k * 4)
  rw [tcells_drop, Nat.zero_add] at this
  exact this
set_option maxHeartbeats 4000000 in
theorem sTalliesPay (A : Option Addr) (c : Nat) (ts : List Tal) (k : Int) (w : World) (h : TR w w.heap.size A ts) (hs : TS ts) (hl : ts.length ≤ 2000) (hcap : ts.length ≤ c ∧ c ≤ 9223372036854775807) (hA : ts ≠ [] → ∃ g, A = some ⟨g, 0, none⟩) :
    Calls Try.prog 44 #[.slice A ts.length c, .int .i64 k] w (RetTB w (pyR ts k) (pyB ts k)) := by
  have c1 := sTalliesValid A c ts w h hs (by omega)
  have HT := Lib.hid h
  clear h hs
  cases hv : tvB ts with
  | false =>
    have e : pyB ts k = false := by unfold pyB; rw [hv]; rfl
    rw [py_no e, e]
    rw [hv] at c1
    clear hv e
    go_enter Try.func44, Try.ntmps44
    go_wp2_with (go_at_call 67; refine c1.mono ?_; rintro e w1 ⟨rfl, hb1⟩)
    go_ret2
    exact ⟨_, _, rfl, (ti_none' _ _ rfl).mono hb1.size, hb1.alloc hb1.size _⟩
  | true =>
    rw [hv] at c1
    by_cases hk : 0 ≤ k ∧ k < ts.length
    case neg =>
      have e : pyB ts k = false := by unfold pyB; simp; omega
      rw [py_no e, e]
      clear hv e
      have hno := fun w => l6In_no k 0 ((ts.length : Int) - 1) w (by omega)
      go_enter Try.func44, Try.ntmps44
      go_wp2_with (first | (go_at_call 67; refine c1.mono ?_; rintro e w1 ⟨rfl, hb1⟩) | (go_at_call 77; refine (hno _).mono ?_; rintro e w2 ⟨rfl, rfl⟩))
      go_ret2
      exact ⟨_, _, rfl, (ti_none' _ _ rfl).mono hb1.size, hb1.alloc hb1.size _⟩
    obtain ⟨k, rfl⟩ := Int.eq_ofNat_of_zero_le hk.1
    have hkn : k < ts.length := by omega
    obtain ⟨e1, e2⟩ := py_yes hv hkn
    obtain ⟨g, rfl⟩ := hA (fun e => by rw [e] at hkn; simp at hkn)
    obtain ⟨R, hR⟩ : ∃ R, pyR ts (k : Int) = R := ⟨_, rfl⟩
    rw [e1, hR]
    rw [hR] at e2
    have HR := Lib.hid e2
    have hyes := fun w => l6In_yes k 0 ((ts.length : Int) - 1) w (by omega) (by omega)
    obtain ⟨b, off, eb, hbb, _⟩ := TR.at_ HT.out hkn
    injection eb with eb
    injection eb with eb1 eb2
    subst eb1 eb2
    clear hv e1 e2 hR hA hk
    have k0 : (0 : Int) ≤ k := by omega
    have k1 : (k : Int) ≤ c := by omega
    have k2 : (k : Int) + 1 ≤ ts.length := by omega
    have k3 : (ts.length : Int) ≤ c := by omega
    have k4 : (k : Int) + 1 ≤ c := by omega
    have k5 : (c : Int) ≤ 9223372036854775807 := by omega
    obtain ⟨kk, hkk⟩ : ∃ kk : Nat, kk = k + 1 := ⟨_, rfl⟩
    have s1 : IntKind.i64.wrap (kk : Int) = (kk : Int) := IntWalk.i64_in _ (by omega)
    have s2 : (k : Int) + 1 = (kk : Int) := by omega
    have m0 : (0 : Int) ≤ kk := by omega
    have m1 : (kk : Int) ≤ ts.length := by omega
    have m2 : (kk : Int) ≤ c := by omega
    have HKK := Lib.hid hkk
    clear hkk
    go_enter Try.func44, Try.ntmps44
    go_wp2_with (first | (go_at_call 67; refine c1.mono ?_; rintro e w1 ⟨rfl, hb1⟩) | (go_at_call 77; refine (hyes _).mono ?_; rintro e w2 ⟨rfl, rfl⟩))
    have R1 := rc_to' (show RC w w.heap.size _ _ from HT.out) hb1
    have hg1 : g < w1.heap.size := by have := hb1.size; omega
    have RA := R1.alloc (Nat.le_refl _) (.cells #[] 36)
    have OA := ti_none w1
    have hl1 : (tcells (ts.take k)).length = k * 4 := by rw [tcells_len, List.length_take]; omega
    have NA : ∀ j u, (tcells (ts.take k))[j]? = some u → (w1.alloc (.cells #[] 36)).drew.cell? ((⟨g, 0, none⟩ : Addr).add j) = some u := news_rc (show RC (w1.alloc (.cells #[] 36)).drew w1.heap.size _ _ from by have := RC.take RA (k * 4); rw [tcells_take] at this; exact this)
    have HK := Lib.hid (And.intro hl1 NA)
    clear hl1 NA
    have HNF := Lib.hid (fun (w4 : World) (hg : (w1.alloc (.cells #[] 36)).drew.grownBy w4 (some w1.heap.size)) => (rc_grown2 RA hg (Nat.le_refl _) (by simp) : RC w4 w1.heap.size (some ⟨g, 0, none⟩) (tcells ts)))
    have hbA : Below w.heap.size w (w1.alloc (.cells #[] 36)) := hb1.alloc hb1.size _
    clear RA R1
    by_cases hkc : kk = c
    · subst hkc
      go_region_law (first
        | (refine step_append_any (by rfl) _ _ (by rfl) w1.heap.size A4 c4 k (tcells (ts.take k)) (by rfl) o5 ⟨g, 0, none⟩ 0 0 [] (by rfl) rfl (fun j u hu => by simp at hu) (fun u hu => by simp at hu) (by omega) (by omega) z4 ?_; intro A6 c6 w6 o6 hg6 hb6)
        | (refine step_append_any (by rfl) _ _ (by rfl) w1.heap.size (some ⟨w1.heap.size, 0, none⟩) 0 0 [] (by rfl) (show OR (w1.alloc (.cells #[] 36)).drew _ _ _ _ _ _ _ from OA) ⟨g, 0, none⟩ k kk _ (by rfl) HK.out.1 HK.out.2 (tcells_one _) (by omega) (by omega) (by simp) ?_; intro A4 c4 w4 o4 hg4 hb4; have o5 : OR w4 w1.heap.size 36 4 A4 c4 k (tcells (ts.take k)) := (by have := o4; rw [Nat.zero_add, List.nil_append] at this; exact this); have N4 := Lib.hid (HNF.out w4 hg4); have z4 : w1.heap.size ≤ w4.heap.size := (by have := hg4.size; simp at this; omega)))
      all_goals
        go_wp2_with fail
        go_ret2
        have eR : R = ts.take k := by rw [HR.out, ← HKK.out, List.drop_of_length_le (by omega), List.append_nil]
        have hRl : R.length = k := by rw [eR, List.length_take]; omega
        refine ⟨A6, c6, by rw [hRl]; rfl, ?_, (hbA.trans ((⟨hb4.os, hb4.tape, hb4.output, by have := hb4.size; exact this, hb4.block⟩ : Below w1.heap.size (w1.alloc (.cells #[] 36)) w4).mono hb1.size)).trans (hb6.mono hb1.size)⟩
        unfold TI
        rw [hRl, eR]
        have := OR.mono o6 hb1.size
        rw [List.append_nil] at this
        exact this
    · have hkc1 : (kk : Int) < c := by omega
      have hkc2 : ¬ (kk : Int) = c := by omega
      have hkc3 : ¬ c = kk := fun e => hkc e.symm
      have hl2 : (tcells (ts.drop kk)).length = (ts.length - kk) * 4 := by rw [tcells_len, List.length_drop]
      have HL2 := Lib.hid hl2
      clear hl2
      go_region_law (first
        | (refine step_append_any (by rfl) _ _ (by rfl) w1.heap.size A4 c4 k (tcells (ts.take k)) (by rfl) o5 ⟨g, kk * 4, none⟩ (ts.length - kk) (c - kk) (tcells (ts.drop kk)) (by rfl) HL2.out (news_rc (rc_dropk N4.out kk)) (tcells_one _) (by omega) (by omega) z4 ?_; intro A6 c6 w6 o6 hg6 hb6)
        | (refine step_append_any (by rfl) _ _ (by rfl) w1.heap.size (some ⟨w1.heap.size, 0, none⟩) 0 0 [] (by rfl) (show OR (w1.alloc (.cells #[] 36)).drew _ _ _ _ _ _ _ from OA) ⟨g, 0, none⟩ k c _ (by rfl) HK.out.1 HK.out.2 (tcells_one _) (by omega) (by omega) (by simp) ?_; intro A4 c4 w4 o4 hg4 hb4; have o5 : OR w4 w1.heap.size 36 4 A4 c4 k (tcells (ts.take k)) := (by have := o4; rw [Nat.zero_add, List.nil_append] at this; exact this); have N4 := Lib.hid (HNF.out w4 hg4); have z4 : w1.heap.size ≤ w4.heap.size := (by have := hg4.size; simp at this; omega)))
      all_goals
        go_wp2_with fail
        go_ret2
        have hRl : R.length = k + (ts.length - kk) := by rw [HR.out, ← HKK.out, List.length_append, List.length_take, List.length_drop]; omega
        refine ⟨A6, c6, by rw [hRl]; rfl, ?_, (hbA.trans ((⟨hb4.os, hb4.tape, hb4.output, by have := hb4.size; exact this, hb4.block⟩ : Below w1.heap.size (w1.alloc (.cells #[] 36)) w4).mono hb1.size)).trans (hb6.mono hb1.size)⟩
        unfold TI
        rw [hRl, HR.out, ← HKK.out, tcells_append]
        exact OR.mono o6 hb1.size

end Go.Proofs.Ytahlflennmdckaa
