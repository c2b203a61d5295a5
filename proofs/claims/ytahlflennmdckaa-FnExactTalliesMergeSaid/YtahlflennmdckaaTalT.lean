/- The walks of markText, markTallyS and heldTallyS. -/
import Derived.Test.YtahlflennmdckaaTalS
import Derived.Laws.BytesArg
namespace Go.Proofs.Ytahlflennmdckaa
open Go.RowKit Go.PlainAid
set_option linter.unusedVariables false
set_option linter.unusedSimpArgs false

/-- The digits of k, written ahead of out. -/
def mdig (k : Nat) (out : ByteArray) : ByteArray := if h : k = 0 then out else mdig (k / 10) (strOfNums [48 + ((k % 10 : Nat) : Int)] ++ out)
termination_by k
decreasing_by omega
theorem mdig_zero (out : ByteArray) : mdig 0 out = out := by rw [mdig]; rfl
theorem mdig_pos {k : Nat} (h : 0 < k) (out : ByteArray) : mdig k out = mdig (k / 10) (strOfNums [48 + ((k % 10 : Nat) : Int)] ++ out) := by
  rw [mdig, dif_neg (by omega)]
def mtx (k : Nat) : ByteArray := ⟨#[109]⟩ ++ mdig k ⟨#[]⟩
/-- The mark's text. -/
def mtI (k : Int) : ByteArray := mtx k.toNat
def Dgt (k j : Nat) (out : ByteArray) : Prop := k < 10 ^ j ∧ out.size + j ≤ 20
theorem dgt_next {k j : Nat} {out r : ByteArray} (h : Dgt k j out) (hk : 0 < k) (hr : r.size = 1) : ∃ j', Dgt (k / 10) j' (r ++ out) := by
  obtain ⟨h1, h2⟩ := h
  cases j with
  | zero => simp at h1; omega
  | succ j =>
    refine ⟨j, ?_, ?_⟩
    · rw [Nat.pow_succ] at h1; omega
    · rw [ByteArray.size_append]; omega

set_option maxHeartbeats 1000000 in
theorem markText_any (k : Int) (w : World) (k0 : 1 ≤ k) (k1 : k ≤ 1000000000000) :
    Calls Try.prog 73 #[.int .i64 k] w fun e w' => e = .returned (.string (mtI k)) ∧ Below w.heap.size w w' := by
  obtain ⟨k, rfl⟩ := Int.eq_ofNat_of_zero_le (show 0 ≤ k by omega)
  unfold mtI mtx
  rw [Int.toNat_natCast]
  obtain ⟨M, hM⟩ : ∃ M, mdig k ⟨#[]⟩ = M := ⟨_, rfl⟩
  rw [hM]
  have HM := Lib.hid hM
  clear hM
  have kc : ∀ (w : World) (z : Int), (convert 25 9 (.slice (some ⟨w.heap.size, 0, none⟩) 1 1)).run Try.prog (w.alloc (.cells #[.int .u8 z] 5)) = .ok (.string (strOfNums [z])) (w.alloc (.cells #[.int .u8 z] 5)) := fun w z =>
    run_convert_bytes_arg _ _ 5 Try.underlying25 Try.underlying5 w.heap.size 0 1 1 [z] rfl (fun i hi => by
      have : i = 0 := by omega
      subst this
      exact (cell_of_row (w.alloc (.cells #[.int .u8 z] 5)) w.heap.size 0 _ _ (0, 0) (heap_alloc_new w _)).trans rfl) _ Try.underlying9
  go_enter Try.func73, Try.ntmps73
  go_wp2
  go_loopw [0, 3] (fun kv o wr => ∃ (q j : Nat) (r : ByteArray), kv = .int .i64 q ∧ o = .string r ∧ q ≤ 1000000000000 ∧ Hid (mdig q r = M) ∧ Hid (Dgt q j r) ∧ r.size ≤ 20 ∧ Below w.heap.size w wr) (fun kv _ _ => (intOf kv).toNat)
  case atStart => exact ⟨k, 20, _, rfl, rfl, by omega, HM.out, ⟨by omega, by simp [ByteArray.size]⟩, by simp [ByteArray.size], Below.refl _ _⟩
  case round =>
    obtain ⟨q, j, r, rfl, rfl, hq, hmd, hdg, hrs, hb⟩ := hrel
    by_cases hp : 0 < q
    · have hn := Lib.hid (mdig_pos hp r)
      obtain ⟨j', hj'⟩ := dgt_next (r := strOfNums [48 + ((q % 10 : Nat) : Int)]) hdg.out hp (strOfNums_size _)
      have HJ := Lib.hid hj'
      have hrs2 : (strOfNums [48 + ((q % 10 : Nat) : Int)] ++ r).size ≤ 20 := by have := hj'.2; omega
      have hs1 := strOfNums_size [48 + ((q % 10 : Nat) : Int)]
      simp only [List.length_cons, List.length_nil] at hs1
      have hcast : ((q % 10 : Nat) : Int) = (q : Int) % 10 := by omega
      rw [hcast] at hn HJ hrs2 hs1
      clear hj' hcast
      go_wp2_with fail
      go_roundw
      case rel => exact ⟨q / 10, j', _, by go_num, rfl, by omega, hn.out.symm.trans hmd.out, HJ.out, hrs2, hb.alloc hb.size _⟩
      case measure => simp [intOf] <;> omega
    · have HE := Lib.hid (show q = 0 by omega)
      go_wp2_with fail
      go_ret
      refine ⟨?_, hb⟩
      have := hmd.out
      rw [HE.out, mdig_zero] at this
      rw [this]
      rfl

/-- The marks. -/
def mks (m : Int) (n : Nat) : List Tal := (List.range n).map fun i : Nat => ⟨m + 4 * (i : Int), m + 4 * (i : Int) + 1, mtI (m + 4 * (i : Int) + 1 + 1), mtI (m + 4 * (i : Int) + 1 + 1 + 1)⟩
theorem mks_len (m : Int) (n : Nat) : (mks m n).length = n := by simp [mks]
theorem mks_tx (m : Int) (n i : Nat) (h : i < n) : tx (mks m n) i = ⟨m + 4 * (i : Int), m + 4 * (i : Int) + 1, mtI (m + 4 * (i : Int) + 1 + 1), mtI (m + 4 * (i : Int) + 1 + 1 + 1)⟩ := by
  unfold tx mks
  simp [List.getD_eq_getElem?_getD, h]
theorem below_grown {w w' : World} (hb : Below w.heap.size w w') (row : Option Nat) : w.grownBy w' row := ⟨hb.os, hb.tape, hb.output, hb.size, fun k hk _ => hb.block k hk⟩
def MrkPost (m : Int) (B : Nat) (A : Option Addr) (c n : Nat) (w : World) (e : Ending) (w' : World) : Prop :=
  e = .returned (.int .i64 (m + 4 * (n : Int))) ∧ OR w' B 36 4 A c n (tcells (mks m n)) ∧ w.grownBy w' (A.map (·.block))

set_option maxHeartbeats 4000000 in
theorem markTallyS_any (B : Nat) (A : Option Addr) (c : Nat) (ts : List Tal) (m : Int) (w : World) (h : TI w B A c ts) (hl : ts.length ≤ 1048576) (hm0 : 1 ≤ m) (hm1 : m ≤ 1000000000) :
    Calls Try.prog 35 #[.slice A ts.length c, .int .i64 m] w (MrkPost m B A c ts.length w) := by
  unfold MrkPost
  have hX : (tcells ts).length = (mks m ts.length).length * 4 := by rw [tcells_len, mks_len]
  have HX := Lib.hid hX
  have H0 : OR w B 36 4 A c ts.length (Mix (mks m ts.length) 0 (tcells ts)) := by rw [mix_start]; exact h
  have HR := Lib.hid H0
  obtain ⟨row, hrow⟩ : ∃ row, A.map (·.block) = row := ⟨_, rfl⟩
  rw [hrow]
  have HW := Lib.hid hrow
  clear hX H0 h hrow
  generalize tcells ts = X at *
  go_enter Try.func35, Try.ntmps35
  go_wp2
  go_loopw [1, 5] (fun x i wr => ∃ k : Nat, k ≤ ts.length ∧ i = .int .i64 k ∧ x = .int .i64 (m + 4 * (k : Int)) ∧ Hid (OR wr B 36 4 A c ts.length (Mix (mks m ts.length) k X)) ∧ w.grownBy wr row) (fun _ i _ => ts.length - (intOf i).toNat)
  case atStart => exact ⟨0, Nat.zero_le _, rfl, int_eq (by omega), HR.out, World.grownBy.refl _ _⟩
  case round =>
    obtain ⟨k, hk, rfl, rfl, hown, hg⟩ := hrel
    by_cases hlt : k < ts.length
    · have hlt' : k < (mks m ts.length).length := by rw [mks_len]; exact hlt
      obtain ⟨g, rfl, _, hgl, _, _, hcell, hfro⟩ := hown.out.form (by omega)
      have HN := Lib.hid (mix_set HX.out hlt')
      rw [mks_tx m _ k hlt] at HN
      obtain ⟨y0, y1, y2, y3, g0, g1, g2, g3⟩ := mix_at HX.out hlt'
      have c0 := hcell _ _ g0
      have c1 := hcell _ _ g1
      have f0 := hfro (k * 4)
      have f1 := hfro (k * 4 + 1)
      clear hcell hfro g0 g1 g2 g3 hlt'
      have HO1 := Lib.hid ((hown.out.set (k * 4) (.int .i64 (m + 4 * (k : Int)))).set (k * 4 + 1) (.int .i64 (m + 4 * (k : Int) + 1)))
      have hrw : row = some g := HW.out.symm
      have hg1 := grown_set (grown_set (hrw ▸ hg) (k * 4) (.int .i64 (m + 4 * (k : Int)))) (k * 4 + 1) (.int .i64 (m + 4 * (k : Int) + 1))
      have HRW := Lib.hid hrw
      clear hrw
      have hkk : (k : Int) ≤ 1048576 := by omega
      generalize Mix (mks m ts.length) k X = M at *
      go_wp2_with fail
      refine (markText_any _ _ (by omega) (by omega)).mono ?_
      rintro e w2 ⟨rfl, hb2⟩
      have hg2 := hg1.trans (below_grown hb2 (some g))
      have HO2 := Lib.hid (OR.below HO1.out hb2 (Nat.le_refl _))
      have hl2 := HO2.out.length
      obtain ⟨g', eg, _, hgl2, _, _, hcell, hfro⟩ := HO2.out.form (by omega)
      injection eg with eg
      injection eg with eg
      subst eg
      obtain ⟨v2, hv2⟩ : ∃ v, (((M.set (k * 4) (Value.int .i64 (m + 4 * (k : Int)))).set (k * 4 + 1) (.int .i64 (m + 4 * (k : Int) + 1))))[k * 4 + 2]? = some v := ⟨_, List.getElem?_eq_getElem (by omega)⟩
      have c2 := hcell _ _ hv2
      have f2 := hfro (k * 4 + 2)
      have HO3 := Lib.hid (OR.set HO2.out (k * 4 + 2) (.string (mtI (m + 4 * (k : Int) + 1 + 1))))
      have hg3 := grown_set hg2 (k * 4 + 2) (.string (mtI (m + 4 * (k : Int) + 1 + 1)))
      clear hcell hfro hv2
      go_wp2_with fail
      refine (markText_any _ _ (by omega) (by omega)).mono ?_
      rintro e w3 ⟨rfl, hb3⟩
      have hg4 := hg3.trans (below_grown hb3 (some g))
      have HO4 := Lib.hid (OR.below HO3.out hb3 (Nat.le_refl _))
      have hl4 := HO4.out.length
      obtain ⟨g', eg, _, hgl4, _, _, hcell, hfro⟩ := HO4.out.form (by omega)
      injection eg with eg
      injection eg with eg
      subst eg
      obtain ⟨v3, hv3⟩ : ∃ v, ((((M.set (k * 4) (Value.int .i64 (m + 4 * (k : Int)))).set (k * 4 + 1) (.int .i64 (m + 4 * (k : Int) + 1))).set (k * 4 + 2) (.string (mtI (m + 4 * (k : Int) + 1 + 1)))))[k * 4 + 3]? = some v := ⟨_, List.getElem?_eq_getElem (by omega)⟩
      have c3 := hcell _ _ hv3
      have f3 := hfro (k * 4 + 3)
      have HO5 := Lib.hid (OR.set HO4.out (k * 4 + 3) (.string (mtI (m + 4 * (k : Int) + 1 + 1 + 1))))
      have hg5 := grown_set hg4 (k * 4 + 3) (.string (mtI (m + 4 * (k : Int) + 1 + 1 + 1)))
      clear hcell hfro hv3
      go_wp2_with fail
      go_roundw
      case rel =>
        refine ⟨k + 1, by omega, by go_num, int_eq (by omega), ?_, by rw [HRW.out]; exact hg5⟩
        rw [← HN.out]
        exact HO5.out
      case measure => simp [intOf] <;> omega
    · have HE := Lib.hid (show k = ts.length by omega)
      go_wp2_with fail
      go_ret
      have := hown.out
      rw [HE.out] at this
      have e := mix_end HX.out
      rw [mks_len] at e
      rw [e] at this
      exact ⟨ret_int (by rw [HE.out]), this, hg⟩

set_option maxHeartbeats 4000000 in
theorem heldTallyS_any (A : Option Addr) (c n : Nat) (m : Int) (w : World) (h : RC w w.heap.size A (tcells (mks m n))) (hl : n ≤ 1048576) (hm0 : 1 ≤ m) (hm1 : m ≤ 1000000000) :
    Calls Try.prog 48 #[.slice A n c, .int .i64 m] w fun e w' => e = .returned (.int .i64 (m + 4 * (n : Int))) ∧ Below w.heap.size w w' := by
  have HT := Lib.hid (show TR w w.heap.size A (mks m n) from h)
  clear h
  go_enter Try.func48, Try.ntmps48
  go_wp2
  go_loopw [1, 5] (fun x i wr => ∃ k : Nat, k ≤ n ∧ i = .int .i64 k ∧ x = .int .i64 (m + 4 * (k : Int)) ∧ Below w.heap.size w wr) (fun _ i _ => n - (intOf i).toNat)
  case atStart => exact ⟨0, Nat.zero_le _, rfl, int_eq (by omega), Below.refl _ _⟩
  case round =>
    obtain ⟨k, hk, rfl, rfl, hb⟩ := hrel
    by_cases hlt : k < n
    · obtain ⟨b, off, rfl, hbb, t0, t1, t2, t3⟩ := TR.at_ (RC.below HT.out hb (Nat.le_refl _)) (i := k) (by rw [mks_len]; exact hlt)
      rw [mks_tx m _ k hlt] at t0 t1 t2 t3
      simp only at t0 t1 t2 t3
      have hbw : b < wr.heap.size := by have := hb.size; omega
      have hkk : (k : Int) ≤ 1048576 := by omega
      have j1 : (0 : Int) ≤ (k : Int) := by omega
      have j2 : (k : Int) < (n : Int) := by omega
      have hm2 := fun w => markText_any (m + 4 * (k : Int) + 1 + 1) w (by omega) (by omega)
      have hm3 := fun w => markText_any (m + 4 * (k : Int) + 1 + 1 + 1) w (by omega) (by omega)
      generalize mtI (m + 4 * (k : Int) + 1 + 1) = s2 at *
      generalize mtI (m + 4 * (k : Int) + 1 + 1 + 1) = s3 at *
      go_wp2_with fail
      go_region_law (go_simp; go_at_call 73; refine (hm2 _).mono ?_; rintro e w2 ⟨rfl, hb2⟩; have hc2 := fun o => hb2.cell (p := ⟨b, o, none⟩) hbw; have hbw2 : b < w2.heap.size := (by have : wr.heap.size ≤ w2.heap.size := hb2.size; omega))
      all_goals
        have t3' : w2.cell? ⟨b, off + k * 4 + 3, none⟩ = some (.string s3) := (hc2 _).trans t3
        have hb3 := below_draw hb hb2
        clear hc2
        go_wp2_with fail
        go_region_law (go_simp; go_at_call 73; refine (hm3 _).mono ?_; rintro e w4 ⟨rfl, hb4⟩; have t4 : w4.cell? ⟨b, off + k * 4 + 3, none⟩ = some (.string s3) := (hb4.cell (p := ⟨b, off + k * 4 + 3, none⟩) hbw2).trans t3')
      all_goals
        go_wp2_with fail
        go_roundw
        case rel => exact ⟨k + 1, by omega, by go_num, int_eq (by omega), below_draw hb3 hb4⟩
        case measure => simp [intOf] <;> omega
    · have HE := Lib.hid (show k = n by omega)
      go_wp2_with fail
      go_ret
      exact ⟨ret_int (by rw [HE.out]), hb⟩

end Go.Proofs.Ytahlflennmdckaa
