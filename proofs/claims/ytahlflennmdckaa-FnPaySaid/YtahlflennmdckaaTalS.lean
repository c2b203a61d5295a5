/- The walks of the laws' helpers over lists of tallies: sizes, copies, comparing. -/
import Derived.Test.YtahlflennmdckaaTalI
import Derived.StillTailTactics
namespace Go.Proofs.Ytahlflennmdckaa
open Go.RowKit Go.PlainAid
set_option linter.unusedVariables false
set_option linter.unusedSimpArgs false

/-- No list is too long, no text is too long. -/
def Smal (ts : List Tal) : Prop := ts.length ≤ 1048576 ∧ ∀ t ∈ ts, t.s.size ≤ 1048576 ∧ t.f.size ≤ 1048576
theorem Smal.ts {ts : List Tal} (h : Smal ts) : TS ts := fun t ht => by have := (h.2 t ht).1; omega
def Sml (ts : List Tal) (k : Nat) : Prop := ∀ j, j < k → (tx ts j).s.size ≤ 1048576 ∧ (tx ts j).f.size ≤ 1048576
theorem sml_next {ts : List Tal} {k : Nat} (h : Sml ts k) (hk : (tx ts k).s.size ≤ 1048576 ∧ (tx ts k).f.size ≤ 1048576) : Sml ts (k + 1) := fun j hj => by
  rcases Nat.lt_or_ge j k with h1 | h1
  · exact h j h1
  · obtain rfl : j = k := by omega
    exact hk
theorem sml_all {ts : List Tal} (h : Sml ts ts.length) (hl : ts.length ≤ 1048576) : Smal ts := ⟨hl, fun t ht => by
  obtain ⟨i, hi, rfl⟩ := List.mem_iff_getElem.1 ht
  rw [← tx_eq ts hi]; exact h i hi⟩
def SzPost1 (s f : ByteArray) (v : Int) (w : World) (e : Ending) (w' : World) : Prop :=
  ∃ u : Int, e = .returned (.int .i64 u) ∧ -1 ≤ u ∧ u ≤ v ∧ (0 ≤ u → s.size ≤ 1048576 ∧ f.size ≤ 1048576) ∧ Below w.heap.size w w'
def SzPost (ts : List Tal) (w : World) (e : Ending) (w' : World) : Prop :=
  ∃ u : Int, e = .returned (.int .i64 u) ∧ u ≤ 1048576 ∧ (0 ≤ u → Smal ts) ∧ Below w.heap.size w w'
/-- The texts are not longer than any text. -/
def TM (ts : List Tal) : Prop := ∀ t ∈ ts, t.s.size ≤ 9223372036854775807 ∧ t.f.size ≤ 9223372036854775807

theorem szTally_any (d c : Int) (s f : ByteArray) (v : Int) (w : World) (v0 : 0 ≤ v) (v1 : v ≤ 1048576) (hs : s.size ≤ 9223372036854775807) (hf : f.size ≤ 9223372036854775807) :
    Calls Try.prog 66 #[.agg #[.int .i64 d, .int .i64 c, .string s, .string f], .int .i64 v] w (SzPost1 s f v w) := by
  by_cases h1 : v - (s.size : Int) < 0
  · go_enter Try.func66, Try.ntmps66
    go_wp2
    go_ret
    exact ⟨-1, rfl, by omega, by omega, fun h => by omega, (Below.refl _ _).alloc (Nat.le_refl _) _⟩
  · by_cases h2 : v - (s.size : Int) - (f.size : Int) < 0
    · go_enter Try.func66, Try.ntmps66
      go_wp2
      go_ret
      exact ⟨-1, rfl, by omega, by omega, fun h => by omega, (Below.refl _ _).alloc (Nat.le_refl _) _⟩
    · go_enter Try.func66, Try.ntmps66
      go_wp2
      go_ret
      exact ⟨_, rfl, by omega, by omega, fun h => by omega, (Below.refl _ _).alloc (Nat.le_refl _) _⟩

set_option maxHeartbeats 1000000 in
theorem szTallyS_any (A : Option Addr) (c : Nat) (ts : List Tal) (w : World) (h : TR w w.heap.size A ts) (hm : TM ts) (hl : ts.length ≤ 9223372036854775807) :
    Calls Try.prog 29 #[.slice A ts.length c, .int .i64 1048576] w (SzPost ts w) := by
  have HM := Lib.hid hm
  have HT := Lib.hid h
  clear hm h
  by_cases hb : ts.length ≤ 1048576
  case neg =>
    go_enter Try.func29, Try.ntmps29
    go_wp2
    go_ret
    exact ⟨-1, rfl, by omega, fun h => by omega, Below.refl _ _⟩
  go_enter Try.func29, Try.ntmps29
  go_wp2
  go_loopw [1, 5] (fun l i wr => ∃ (k : Nat) (v : Int), k ≤ ts.length ∧ i = .int .i64 k ∧ l = .int .i64 v ∧ 0 ≤ v ∧ v ≤ 1048576 ∧ Hid (Sml ts k) ∧ Below w.heap.size w wr) (fun _ i _ => ts.length - (intOf i).toNat)
  case atStart => exact ⟨0, _, Nat.zero_le _, rfl, rfl, by omega, by omega, fun j hj => absurd hj (by omega), Below.refl _ _⟩
  case round =>
    obtain ⟨k, v, hk, rfl, rfl, v0, v1, hsm, hb⟩ := hrel
    by_cases hlt : k < ts.length
    · obtain ⟨b, off, rfl, hbb, t0, t1, t2, t3⟩ := TR.at_ (RC.below HT.out hb (Nat.le_refl _)) hlt
      obtain ⟨z1, z2⟩ := HM.out _ (tx_mem ts hlt)
      have hyes := Lib.hid (fun h => sml_next hsm.out (k := k) h)
      generalize (tx ts k) = T at *
      obtain ⟨d, c', s, f⟩ := T
      simp only at t0 t1 t2 t3 z1 z2
      go_wp2_with fail
      refine (szTally_any d c' s f v _ v0 v1 z1 z2).mono ?_
      rintro e w2 ⟨u, rfl, u0, u1, hu, hb2⟩
      have HU := Lib.hid hu
      clear hu
      by_cases hn : u < 0
      · go_wp2_with fail
        go_ret
        exact ⟨-1, rfl, by omega, fun h => by omega, below_then2 hb hb2⟩
      · go_wp2_with fail
        go_roundw
        case rel => exact ⟨k + 1, u, by omega, by go_num, rfl, by omega, by omega, hyes.out (HU.out (by omega)), below_then2 hb hb2⟩
        case measure => simp [intOf] <;> omega
    · have HE := Lib.hid (show k = ts.length by omega)
      go_wp2_with fail
      go_ret
      exact ⟨v, rfl, by omega, fun _ => sml_all (by have := hsm.out; rwa [HE.out] at this) (by omega), hb⟩

theorem toTally_any (d c : Int) (s f : ByteArray) (w : World) :
    Calls Try.prog 69 #[.agg #[.int .i64 d, .int .i64 c, .string s, .string f]] w fun e w' => e = .returned (.agg #[.int .i64 d, .int .i64 c, .string s, .string f]) ∧ Below w.heap.size w w' := by
  go_enter Try.func69, Try.ntmps69
  go_wp2
  exact bodyPost_ret (v := .agg #[.int .i64 d, .int .i64 c, .string s, .string f]) (by simp [results, Try.results69, go_sem]) rfl ⟨rfl, (((Below.refl _ _).alloc (Nat.le_refl _) _).alloc (by simp) _).alloc (by simp <;> omega) _⟩

theorem eqTally_yes (d c : Int) (s f : ByteArray) (w : World) :
    Calls Try.prog 72 #[.agg #[.int .i64 d, .int .i64 c, .string s, .string f], .agg #[.int .i64 d, .int .i64 c, .string s, .string f]] w fun e w' => e = .returned (.bool true) ∧ Below w.heap.size w w' := by
  go_enter Try.func72, Try.ntmps72
  go_wp2
  go_ret
  exact ⟨rfl, ((Below.refl _ _).alloc (Nat.le_refl _) _).alloc (by simp) _⟩

theorem set4 (P R : List Value) (n : Nat) (hP : P.length = n) (a b c d x0 x1 x2 x3 : Value) :
    ((((P ++ a :: b :: c :: d :: R).set n x0).set (n + 1) x1).set (n + 2) x2).set (n + 3) x3 = P ++ x0 :: x1 :: x2 :: x3 :: R := by
  subst hP
  simp [List.set_append_right]
theorem four {X : List Value} {m : Nat} (h : m + 4 ≤ X.length) : ∃ a b c d, X.drop m = a :: b :: c :: d :: X.drop (m + 4) := by
  have h0 : m < X.length := by omega
  have h1 : m + 1 < X.length := by omega
  have h2 : m + 2 < X.length := by omega
  have h3 : m + 3 < X.length := by omega
  refine ⟨X[m], X[m + 1], X[m + 2], X[m + 3], ?_⟩
  rw [List.drop_eq_getElem_cons h0, List.drop_eq_getElem_cons h1, List.drop_eq_getElem_cons h2, List.drop_eq_getElem_cons h3]
/-- the first k tallies are written, behind them lies X. -/
def Mix (ts : List Tal) (k : Nat) (X : List Value) : List Value := tcells (ts.take k) ++ X.drop (k * 4)
theorem mix_set {ts : List Tal} {k : Nat} {X : List Value} (hX : X.length = ts.length * 4) (hk : k < ts.length) :
    ((((Mix ts k X).set (k * 4) (.int .i64 (tx ts k).d)).set (k * 4 + 1) (.int .i64 (tx ts k).c)).set (k * 4 + 2) (.string (tx ts k).s)).set (k * 4 + 3) (.string (tx ts k).f) = Mix ts (k + 1) X := by
  obtain ⟨a, b, c, d, e⟩ := four (X := X) (m := k * 4) (by omega)
  unfold Mix
  rw [e, set4 _ _ _ (by rw [tcells_len, List.length_take]; omega)]
  rw [tx_take ts hk, tcells_append, show (k + 1) * 4 = k * 4 + 4 by omega]
  simp [tcells]
theorem mix_at {ts : List Tal} {k : Nat} {X : List Value} (hX : X.length = ts.length * 4) (hk : k < ts.length) :
    ∃ a b c d, (Mix ts k X)[k * 4]? = some a ∧ (Mix ts k X)[k * 4 + 1]? = some b ∧ (Mix ts k X)[k * 4 + 2]? = some c ∧ (Mix ts k X)[k * 4 + 3]? = some d := by
  obtain ⟨a, b, c, d, e⟩ := four (X := X) (m := k * 4) (by omega)
  have hl : (tcells (ts.take k)).length = k * 4 := by rw [tcells_len, List.length_take]; omega
  refine ⟨a, b, c, d, ?_, ?_, ?_, ?_⟩ <;> unfold Mix <;> rw [e, List.getElem?_append_right (by omega), hl] <;> simp
theorem mix_end {ts : List Tal} {X : List Value} (hX : X.length = ts.length * 4) : Mix ts ts.length X = tcells ts := by
  unfold Mix
  rw [List.take_of_length_le (Nat.le_refl _), List.drop_of_length_le (by omega), List.append_nil]
theorem mix_start (ts : List Tal) (X : List Value) : Mix ts 0 X = X := by simp [Mix, tcells]

/-- A list of tallies was made. -/
def RetT (w : World) (ts : List Tal) (e : Ending) (w' : World) : Prop := ∃ A c, e = .returned (.slice A ts.length c) ∧ TI w' w.heap.size A c ts ∧ Below w.heap.size w w'

set_option maxHeartbeats 2000000 in
theorem toTallyS_any (A : Option Addr) (c : Nat) (ts : List Tal) (w : World) (h : TR w w.heap.size A ts) (hl : ts.length ≤ 1048576) :
    Calls Try.prog 31 #[.slice A ts.length c] w (RetT w ts) := by
  have HT := Lib.hid h
  clear h
  go_enter Try.func31, Try.ntmps31
  go_wp2_with (at_make; refine wpList_mkC rfl _ _ 46 36 rfl _ 4 48 tally_info Try.underlying46 (by omega) _ _ ts.length rfl rfl rfl rfl (by omega) ?_; intro w1 hown1 hb1)
  have hX := hown1.length
  generalize (madeCells (Value.agg #[.int .i64 0, .int .i64 0, .string ⟨#[]⟩, .string ⟨#[]⟩]).cells (ts.length * 4)).toList = X at *
  have HX := Lib.hid hX
  clear hX
  go_loopw [4] (fun i wr => ∃ k : Nat, k ≤ ts.length ∧ i = .int .i64 k ∧ OR wr w.heap.size 36 4 (some ⟨w.heap.size, 0, none⟩) ts.length ts.length (Mix ts k X) ∧ Below w.heap.size w wr) (fun i _ => ts.length - (intOf i).toNat)
  case atStart => exact ⟨0, Nat.zero_le _, rfl, by rw [mix_start]; exact hown1, hb1⟩
  case round =>
    obtain ⟨k, hk, rfl, hown, hb⟩ := hrel
    by_cases hlt : k < ts.length
    · obtain ⟨b, off, rfl, hbb, t0, t1, t2, t3⟩ := TR.at_ (RC.below HT.out hb (Nat.le_refl _)) hlt
      have HN := Lib.hid (mix_set HX.out hlt)
      obtain ⟨y0, y1, y2, y3, g0, g1, g2, g3⟩ := mix_at HX.out hlt
      have HG := Lib.hid (And.intro g0 (And.intro g1 (And.intro g2 g3)))
      have HO := Lib.hid hown
      clear g0 g1 g2 g3 hown
      have hc := fun w => toTally_any (tx ts k).d (tx ts k).c (tx ts k).s (tx ts k).f w
      generalize (tx ts k) = T at *
      obtain ⟨d, c', s, f⟩ := T
      simp only at t0 t1 t2 t3 hc HN
      go_wp2_with fail
      refine (hc _).mono ?_
      rintro e w2 ⟨rfl, hb2⟩
      have hO2 := Lib.hid (OR.below HO.out hb2 (Nat.le_refl _))
      obtain ⟨g, eg, _, hgl, _, _, hcell, hfro⟩ := hO2.out.form (by omega)
      injection eg with eg
      injection eg with eg
      subst eg
      have c0 := hcell _ _ HG.out.1
      have c1 := hcell _ _ HG.out.2.1
      have c2 := hcell _ _ HG.out.2.2.1
      have c3 := hcell _ _ HG.out.2.2.2
      have f0 := hfro (k * 4)
      have f1 := hfro (k * 4 + 1)
      have f2 := hfro (k * 4 + 2)
      have f3 := hfro (k * 4 + 3)
      clear hcell hfro hc
      go_wp2_with fail
      go_roundw
      case rel =>
        refine ⟨k + 1, by omega, by go_num, ?_, ?_⟩
        · rw [← HN.out]
          exact (((hO2.out.set (k * 4) (.int .i64 d)).set (k * 4 + 1) (.int .i64 c')).set (k * 4 + 2) (.string s)).set (k * 4 + 3) (.string f)
        · exact (((((below_then2 hb hb2).setCell (p := ⟨w.heap.size, k * 4, none⟩) (Nat.le_refl _) _).setCell (p := ⟨w.heap.size, k * 4 + 1, none⟩) (Nat.le_refl _) _).setCell (p := ⟨w.heap.size, k * 4 + 2, none⟩) (Nat.le_refl _) _).setCell (p := ⟨w.heap.size, k * 4 + 3, none⟩) (Nat.le_refl _) _)
      case measure => simp [intOf] <;> omega
    · have HE := Lib.hid (show k = ts.length by omega)
      rw [HE.out, mix_end HX.out] at hown
      go_wp2_with fail
      go_ret
      exact ⟨_, _, rfl, hown, hb⟩

set_option maxHeartbeats 2000000 in
theorem eqTallyS_yes (A C : Option Addr) (c d : Nat) (ts : List Tal) (w : World) (h : TR w w.heap.size A ts) (h' : TR w w.heap.size C ts) (hl : ts.length ≤ 1048576) :
    Calls Try.prog 34 #[.slice A ts.length c, .slice C ts.length d] w fun e w' => e = .returned (.bool true) ∧ Below w.heap.size w w' := by
  have HT := Lib.hid h
  have HU := Lib.hid h'
  clear h h'
  go_enter Try.func34, Try.ntmps34
  go_wp2
  go_loopw [5] (fun i wr => ∃ k : Nat, k ≤ ts.length ∧ i = .int .i64 k ∧ Below w.heap.size w wr) (fun i _ => ts.length - (intOf i).toNat)
  case atStart => exact ⟨0, Nat.zero_le _, rfl, Below.refl _ _⟩
  case round =>
    obtain ⟨k, hk, rfl, hb⟩ := hrel
    by_cases hlt : k < ts.length
    · obtain ⟨b, off, rfl, hbb, t0, t1, t2, t3⟩ := TR.at_ (RC.below HT.out hb (Nat.le_refl _)) hlt
      obtain ⟨b', off', rfl, hbb', u0, u1, u2, u3⟩ := TR.at_ (RC.below HU.out hb (Nat.le_refl _)) hlt
      have hc := fun w => eqTally_yes (tx ts k).d (tx ts k).c (tx ts k).s (tx ts k).f w
      generalize (tx ts k) = T at *
      obtain ⟨d, c', s, f⟩ := T
      simp only at t0 t1 t2 t3 hc u0 u1 u2 u3
      have j1 : (0 : Int) ≤ (k : Int) := by omega
      have j2 : (k : Int) < (ts.length : Int) := by omega
      go_wp2_with fail
      go_region_law (go_simp; go_at_call 72; refine (hc _).mono ?_; rintro e w2 ⟨rfl, hb2⟩)
      all_goals
        go_wp2_with fail
        go_roundw
        case rel => exact ⟨k + 1, by omega, by go_num, below_draw hb hb2⟩
        case measure => simp [intOf] <;> omega
    · go_wp2_with fail
      go_ret
      exact ⟨rfl, hb⟩

end Go.Proofs.Ytahlflennmdckaa
