/- The walks of the draw of a payment and of impl's TalliesPay. -/
import Derived.Test.YtahlflennmdckaaTalMg
namespace Go.Proofs.Ytahlflennmdckaa
open Go.RowKit Go.PlainAid
set_option linter.unusedVariables false
set_option linter.unusedSimpArgs false

def AtPost (B g : Nat) (p n : Int) (w : World) (e : Ending) (w' : World) : Prop := ∃ v p' : Int, -1 ≤ v ∧ v ≤ n ∧ p ≤ p' ∧ p' ≤ p + 3 ∧ e = .returned (.int .i64 v) ∧ Rdr w' B g p' ∧ w.grownBy w' (some g)
theorem l91_lit {w w7 : World} {g : Nat} (n : Int) (hg : (w.alloc (.cells #[.int .i64 (-1), .int .i64 n] 3)).grownBy w7 (some g)) (hng : w.heap.size ≠ g) {x : Nat} (hx : x < 2) (hn : 0 ≤ n) :
    ∃ v : Int, -1 ≤ v ∧ v ≤ n ∧ w7.cell? ⟨w.heap.size, x, none⟩ = some (.int .i64 v) := by
  have L := (Blk.new w 3 #[.int .i64 (-1), .int .i64 n]).grown hg (by simp; exact hng)
  rw [L.cell]
  have : x = 0 ∨ x = 1 := by omega
  rcases this with e | e <;> subst e
  · exact ⟨-1, by omega, by omega, rfl⟩
  · exact ⟨n, by omega, by omega, rfl⟩
set_option maxHeartbeats 1000000 in
theorem l91At_any (B g : Nat) (p : Int) (n : Int) (w : World) (h : Rdr w B g p) (p0 : 0 ≤ p) (p1 : p ≤ 900000) (n0 : 0 ≤ n) (n1 : n ≤ 100) :
    Calls Try.prog 75 #[.pointer (some ⟨g, 0, none⟩), .int .i64 n] w (AtPost B g p n w) := by
  have hgl := h.lt.2
  by_cases hz : n = 0
  · subst hz
    go_enter Try.func75, Try.ntmps75
    go_wp2_with fail
    refine (pick_any B g p 2 _ (h.alloc _) p0 (by omega) (by omega) (by omega)).mono ?_
    rintro e w1 ⟨x, x0, x1, rfl, hr1, hg1⟩
    obtain ⟨x, rfl⟩ := Int.eq_ofNat_of_zero_le x0
    obtain ⟨v, v0, v1, hc⟩ := l91_lit 0 hg1 (by omega) (x := x) (by omega) (by omega)
    go_wp2_with fail
    go_ret
    exact ⟨v, _, v0, v1, by omega, by omega, rfl, hr1, (World.grownBy_alloc _ _ _).trans hg1⟩
  · have hz' : (n == 0) = false := beq_eq_false_iff_ne.2 hz
    go_enter Try.func75, Try.ntmps75
    go_wp2_with fail
    refine (pick_any B g p 20 _ h p0 (by omega) (by omega) (by omega)).mono ?_
    rintro e w1 ⟨y, y0, y1, rfl, hr1, hg1⟩
    have hgl1 := hr1.lt.2
    by_cases c0 : y = 0
    · subst c0
      go_wp2_with fail
      refine (pick_any B g (p + 1) 2 _ (hr1.alloc _) (by omega) (by omega) (by omega) (by omega)).mono ?_
      rintro e w2 ⟨x, x0, x1, rfl, hr2, hg2⟩
      obtain ⟨x, rfl⟩ := Int.eq_ofNat_of_zero_le x0
      obtain ⟨v, v0, v1, hc⟩ := l91_lit n hg2 (by omega) (x := x) (by omega) (by omega)
      go_wp2_with fail
      go_ret
      exact ⟨v, _, v0, v1, by omega, by omega, rfl, hr2, hg1.trans ((World.grownBy_alloc _ _ _).trans hg2)⟩
    · have c0' : (y == 0) = false := beq_eq_false_iff_ne.2 c0
      clear c0
      go_wp2_with fail
      refine (pick_any B g (p + 1) n _ hr1 (by omega) (by omega) (by omega) (by omega)).mono ?_
      rintro e w2 ⟨x, x0, x1, rfl, hr2, hg2⟩
      go_wp2_with fail
      go_ret
      exact ⟨x, _, by omega, by omega, by omega, by omega, rfl, hr2, hg1.trans hg2⟩
def DpPost (w : World) (e : Ending) (w' : World) : Prop := ∃ (ts : List Tal) (A : Option Addr) (c : Nat) (k : Int), Shrt ts ∧ -1 ≤ k ∧ k ≤ 7 ∧ e = .returned (.tuple #[.slice A ts.length c, .int .i64 k]) ∧ TI w' w.heap.size A c ts ∧ Below w.heap.size w w'
theorem drawTalliesPay (A : Option Addr) (len cap : Nat) (zs : List Int) (w : World) (hs : Sl .u8 w A len cap zs) :
    Calls Try.prog 42 #[.slice A len cap] w (DpPost w) := by
  have HS := Lib.hid hs
  clear hs
  go_enter Try.func42, Try.ntmps42
  go_wp2_with fail
  refine (l6Open_any A len cap zs _ HS.out).mono ?_
  rintro e w1 ⟨g, rfl, hr, hb⟩
  go_wp2_with fail
  refine (l92Tallies_any _ g 0 _ hr (by omega) (by omega)).mono ?_
  rintro e w2 ⟨ts, A2, c2, p', hsh, q1, q2, rfl, ho, hr2, hg2⟩
  have h7 := hsh.1
  have HO := Lib.hid ho
  clear ho
  go_wp2_with fail
  refine (l91At_any _ g p' ts.length _ hr2 (by omega) (by omega) (by omega) (by omega)).mono ?_
  rintro e w3 ⟨v, p'', v0, v1, _, _, rfl, hr3, hg3⟩
  go_wp2_with fail
  go_ret2
  have sp := OR.span HO.out
  have hg1 := hr.lt
  exact ⟨ts, A2, c2, v, hsh, v0, by omega, rfl, OR.mono (OR.grown HO.out hg3 (fun b e => by have := sp b e; simp; omega)) hb.size, below_drawn hb hr (hg2.trans hg3)⟩

/-- What is left when the k-th is paid. -/
def pyB (ts : List Tal) (k : Int) : Bool := tvB ts && decide (0 ≤ k ∧ k < ts.length)
def pyR (ts : List Tal) (k : Int) : List Tal := if pyB ts k = true then ts.take k.toNat ++ ts.drop (k.toNat + 1) else []
theorem py_no {ts : List Tal} {k : Int} (h : pyB ts k = false) : pyR ts k = [] := by unfold pyR; rw [h]; rfl
theorem py_yes {ts : List Tal} {k : Nat} (h : tvB ts = true) (hk : k < ts.length) : pyB ts k = true ∧ pyR ts k = ts.take k ++ ts.drop (k + 1) := by
  have e : pyB ts k = true := by unfold pyB; rw [h]; simp; omega
  exact ⟨e, by unfold pyR; rw [if_pos e, Int.toNat_natCast]⟩
/-- The first j, without the k-th. -/
def skp (ts : List Tal) (k j : Nat) : List Tal := if j ≤ k then ts.take j else ts.take k ++ (ts.drop (k + 1)).take (j - (k + 1))
theorem skp_same {ts : List Tal} {k : Nat} : skp ts k (k + 1) = skp ts k k := by unfold skp; rw [if_neg (by omega), if_pos (by omega)]; simp
theorem skp_next {ts : List Tal} {k j : Nat} (hj : j < ts.length) (h : j ≠ k) : skp ts k (j + 1) = skp ts k j ++ [tx ts j] := by
  unfold skp
  by_cases h1 : j < k
  · rw [if_pos (by omega), if_pos (by omega), tx_take ts hj]
  · rw [if_neg (by omega), if_neg (by omega), List.append_assoc]
    congr 1
    have e : j + 1 - (k + 1) = (j - (k + 1)) + 1 := by omega
    rw [e, List.take_succ_eq_append_getElem (by rw [List.length_drop]; omega), tx_eq ts hj]
    congr 2
    rw [List.getElem_drop]
    congr 1
    omega
theorem skp_all {ts : List Tal} {k : Nat} (hk : k < ts.length) : skp ts k ts.length = ts.take k ++ ts.drop (k + 1) := by
  unfold skp; rw [if_neg (by omega), List.take_of_length_le (l := ts.drop (k + 1)) (by rw [List.length_drop]; omega)]
theorem skp_len (ts : List Tal) (k j : Nat) : (skp ts k j).length ≤ j := by
  unfold skp; split
  · rw [List.length_take]; omega
  · rw [List.length_append, List.length_take, List.length_take]; omega

set_option maxHeartbeats 4000000 in
theorem iTalliesPay (A : Option Addr) (c : Nat) (ts : List Tal) (k : Int) (w : World) (h : TR w w.heap.size A ts) (hs : TS ts) (hl : ts.length ≤ 2000) :
    Calls Try.prog 43 #[.slice A ts.length c, .int .i64 k] w (RetTB w (pyR ts k) (pyB ts k)) := by
  have c1 := iTalliesValid A c ts w h hs (by omega)
  have HT := Lib.hid h
  clear h hs
  cases hv : tvB ts with
  | false =>
    have e : pyB ts k = false := by unfold pyB; rw [hv]; rfl
    rw [py_no e, e]
    rw [hv] at c1
    clear hv e
    go_enter Try.func43, Try.ntmps43
    go_wp2_with (go_at_call 76; refine c1.mono ?_; rintro e w1 ⟨rfl, hb1⟩)
    go_ret2
    exact ⟨_, _, rfl, ti_nil _ _, hb1⟩
  | true =>
    by_cases hk0 : k < 0
    · have e : pyB ts k = false := by unfold pyB; simp; omega
      rw [py_no e, e]
      rw [hv] at c1
      clear hv e
      go_enter Try.func43, Try.ntmps43
      go_wp2_with (go_at_call 76; refine c1.mono ?_; rintro e w1 ⟨rfl, hb1⟩)
      go_ret2
      exact ⟨_, _, rfl, ti_nil _ _, hb1⟩
    · by_cases hkl : (ts.length : Int) ≤ k
      · have e : pyB ts k = false := by unfold pyB; simp; omega
        rw [py_no e, e]
        rw [hv] at c1
        clear hv e
        go_enter Try.func43, Try.ntmps43
        go_wp2_with (go_at_call 76; refine c1.mono ?_; rintro e w1 ⟨rfl, hb1⟩)
        go_ret2
        exact ⟨_, _, rfl, ti_nil _ _, hb1⟩
      · obtain ⟨k, rfl⟩ := Int.eq_ofNat_of_zero_le (show 0 ≤ k by omega)
        have hkn : k < ts.length := by omega
        obtain ⟨e1, e2⟩ := py_yes hv hkn
        obtain ⟨R, hR⟩ : ∃ R, pyR ts (k : Int) = R := ⟨_, rfl⟩
        rw [e1, hR]
        rw [hR] at e2
        have HR := Lib.hid e2
        have hall := Lib.hid (skp_all hkn)
        rw [hv] at c1
        clear hv e1 e2 hR hk0 hkl
        have hk1 : (k : Int) < (ts.length : Int) := by omega
        go_enter Try.func43, Try.ntmps43
        go_wp2_with (first | (go_at_call 76; refine c1.mono ?_; rintro e w1 ⟨rfl, hb1⟩) | (at_make; refine wpList_mk0C rfl _ _ 46 36 rfl _ 4 48 tally_info Try.underlying46 (by omega) _ ts.length rfl rfl rfl (by omega) ?_; intro w2 hown2 hb2))
        have T2 := below_then2 hb1 hb2
        go_loopw [6, 7, 8, 27] (fun s _ _ i wr => ∃ (j n : Nat) (A' : Option Addr) (c' : Nat), j ≤ ts.length ∧ i = .int .i64 j ∧ s = .slice A' n c' ∧ n ≤ j ∧ OR wr w1.heap.size 36 4 A' c' n (tcells (skp ts k j)) ∧ Hid (n = (skp ts k j).length) ∧ w1.heap.size ≤ wr.heap.size ∧ Below w.heap.size w wr) (fun _ _ _ i _ => ts.length - (intOf i).toNat)
        case atStart => exact ⟨0, 0, _, _, Nat.zero_le _, rfl, rfl, by omega, by simpa [skp, tcells] using hown2, by simp [skp, Hid], hb2.size, T2⟩
        case round =>
          obtain ⟨j, n, A', c', hj, rfl, rfl, hnj, ho, hn, hB0, hb⟩ := hrel
          clear hown2 hb2 T2
          by_cases hlt : j < ts.length
          · obtain ⟨b, off, rfl, hbb, t0, t1, t2, t3⟩ := TR.at_ (RC.below HT.out hb (Nat.le_refl _)) hlt
            by_cases hjk : j = k
            · subst hjk
              have HN := Lib.hid (skp_same (ts := ts) (k := j))
              generalize (tx ts j) = T at *
              obtain ⟨d, cc, s, f⟩ := T
              simp only at t0 t1 t2 t3
              go_wp2_with fail
              go_roundw
              case rel => exact ⟨j + 1, n, A', c', by omega, by go_num, rfl, by omega, by rw [HN.out]; exact ho.alloc _, by rw [HN.out]; exact hn, by simp; omega, hb.alloc hb.size _⟩
              case measure => simp [intOf] <;> omega
            · have HN := Lib.hid (skp_next hlt hjk)
              have HC := Lib.hid (tcells_append (skp ts k j) [tx ts j])
              have hne : ((j : Int) != (k : Int)) = true := by simp; omega
              have hne2 : (j != k) = true := by simp [hjk]
              generalize (tx ts j) = T at *
              obtain ⟨d, cc, s, f⟩ := T
              simp only at t0 t1 t2 t3
              have ho2 := Lib.hid (ho.alloc (.cells #[.int .i64 d, .int .i64 cc, .string s, .string f] 36))
              have hB2 : w1.heap.size ≤ (wr.alloc (.cells #[.int .i64 d, .int .i64 cc, .string s, .string f] 36)).heap.size := by simp; omega
              clear hjk
              go_wp2_with (at_builtin; refine wpList_pushC rfl _ _ 46 36 rfl _ 4 48 tally_info Try.underlying46 rfl (by omega) (by omega) rfl (by simp [Value.oneCell']) w1.heap.size A' c' n _ rfl ho2.out (wr.heap.size + 1) rfl (by simp) (by omega) hB2 ?_; intro A2 c2 w4 hown4 hg4 hb4 _)
              go_roundw
              case rel =>
                refine ⟨j + 1, n + 1, A2, c2, by omega, by go_num, rfl, by omega, ?_, ?_, by have := hg4.size; simp at this; omega, (hb.alloc hb.size _).trans (hb4.mono hb1.size)⟩
                · rw [HN.out, HC.out]; exact hown4
                · rw [HN.out]; show _ = _; rw [List.length_append, ← hn.out]; rfl
              case measure => simp [intOf] <;> omega
          · have HE := Lib.hid (show j = ts.length by omega)
            go_wp2_with fail
            go_ret2
            have e3 := hall.out
            rw [← HE.out] at e3
            have e4 : R = skp ts k j := by rw [e3]; exact HR.out
            exact ⟨A', c', by rw [e4, ← hn.out]; rfl, by rw [e4]; unfold TI; rw [← hn.out]; exact OR.mono ho hb1.size, hb⟩

end Go.Proofs.Ytahlflennmdckaa
