/- The walks of l92Chain, DrawChainCommon, DrawChainOf. No condition. -/
import Derived.Test.YtomojiipgabhfaaDrwCi
namespace Go.Proofs.Ytomojiipgabhfaa
open Go.RowKit
set_option linter.unusedVariables false

def DrawTwo (B g : Nat) (p : Int) (k : Nat) (P : Int → Int → Prop) (w : World) (e : Ending) (w' : World) : Prop := ∃ u v p' : Int, P u v ∧ p ≤ p' ∧ p' ≤ p + k ∧ e = .returned (.tuple #[.int .i64 u, .int .i64 v]) ∧ Rdr w' B g p' ∧ w.grownBy w' (some g)

def ChI (B g : Nat) (p : Int) (w1 : World) (listed : Array Bool) (a : Act) (w : World) : Prop :=
  listed.size = 12 ∧ ∃ (u7 u8 u9 u10 u11 u12 u13 u14 u15 u16 u2 u3 : Value) (s1 s2 x y : Nat),
    a = { tmps := #[.pointer (some ⟨g, 0, none⟩), undef, u2, u3, .pointer (some ⟨g, 0, none⟩), .int .i64 0, .bool true, u7, u8, u9, u10, u11, u12, u13, u14, u15, u16, undef, undef, undef, undef, undef, undef, undef, undef], defers := [] } ∧
    ChF B g p w1 (fun j => listed.getD j false) u7 u8 u9 u10 u11 u12 u13 u14 u15 u16 u2 u3 s1 s2 x y w

theorem chI_mk {B g : Nat} {p : Int} {w1 : World} {listed : Array Bool} {i : Nat} {u7 u8 u9 u10 u11 u12 u13 u14 u15 u16 u2 u3 : Value} {s1 s2 x y : Nat} {w : World} (hsz : listed.size = 12) (hi : i < 12)
    (hF : ChF B g p w1 (upd (fun j => listed.getD j false) i) u7 u8 u9 u10 u11 u12 u13 u14 u15 u16 u2 u3 s1 s2 x y w) :
    ChI B g p w1 (listed.setIfInBounds i true) { tmps := #[.pointer (some ⟨g, 0, none⟩), undef, u2, u3, .pointer (some ⟨g, 0, none⟩), .int .i64 0, .bool true, u7, u8, u9, u10, u11, u12, u13, u14, u15, u16, undef, undef, undef, undef, undef, undef, undef, undef], defers := [] } w :=
  ⟨by simp [hsz], u7, u8, u9, u10, u11, u12, u13, u14, u15, u16, u2, u3, s1, s2, x, y, rfl, by rw [getD_upd (by omega)]; exact hF⟩
theorem chI_start {B g : Nat} {p : Int} {w1 w : World} {u7 u8 u9 u10 u11 u12 u13 u14 u15 u16 u2 u3 : Value} (hr : Rdr w B g (p + 1)) (ho : w1.grownBy w (some g)) (hg : g < w1.heap.size) :
    ChI B g p w1 (Array.replicate 12 false) { tmps := #[.pointer (some ⟨g, 0, none⟩), undef, u2, u3, .pointer (some ⟨g, 0, none⟩), .int .i64 0, .bool true, u7, u8, u9, u10, u11, u12, u13, u14, u15, u16, undef, undef, undef, undef, undef, undef, undef, undef], defers := [] } w := by
  have hn : ∀ j, (Array.replicate 12 false).getD j false = false := fun j => by
    simp only [Array.getD_eq_getD_getElem?, Array.getElem?_replicate]
    split <;> rfl
  have hx : ∀ {j : Nat} {P : Prop}, (Array.replicate 12 false).getD j false = true → P := fun {j P} h => by rw [hn j] at h; cases h
  refine ⟨by simp, u7, u8, u9, u10, u11, u12, u13, u14, u15, u16, u2, u3, 0, 0, 0, 0, rfl, ?_⟩
  exact { c3_0 := hx, c3_2 := hx, c8_5 := hx, c8_7 := hx, c4_2 := hx, c9_7 := hx, c7_2 := hx, c10_4 := hx, c11_9 := hx, f0 := hx, f1 := hx, f2 := hx, f3 := hx, f4 := hx, f5 := hx, f6 := hx, f7 := hx, f8 := hx, f9 := hx, f10 := hx, f11 := hx,
          rdr := by rw [hn 2, hn 7]; simpa using hr, old := ho, gl := hg }
theorem dep_of {md : Region.Mode} {ops : Array Oper} {listed : Array Bool} {i : Nat} {o : Oper} {e : Edge} (hi : i ∈ Region.ready md ops listed) (ho : ops[i]? = some o) (he : e ∈ o.after) (hb : Region.binds md e = true) : listed.getD e.on false = true := by
  obtain ⟨_, o', ho', h⟩ := mem_ready.1 hi
  rw [ho] at ho'
  injection ho' with ho'
  subst ho'
  exact h e he hb
theorem not_of {md : Region.Mode} {ops : Array Oper} {listed : Array Bool} {i : Nat} (hi : i ∈ Region.ready md ops listed) (hsz : listed.size = ops.size) : listed.getD i false = false := by
  have h1 := (mem_ready.1 hi).1
  have hl : i < listed.size := by rw [hsz]; exact ready_lt hi
  rw [getD_of hl] at h1 ⊢
  exact h1
theorem hord_of {md : Region.Mode} {ops : Array Oper} (h : (List.range ops.size).all (fun j => match ops[j]? with | some o => o.after.all (fun e => !Region.binds md e || decide (e.on < j)) | none => true) = true) :
    ∀ (j : Nat) (o : Oper), ops[j]? = some o → ∀ e ∈ o.after, Region.binds md e = true → e.on < j := by
  intro j o ho e he hb
  have hj : j < ops.size := (Array.getElem?_eq_some_iff.1 ho).1
  have := List.all_eq_true.1 h j (List.mem_range.2 hj)
  rw [ho] at this
  have h2 := Array.all_eq_true_iff_forall_mem.1 this e he
  rw [hb] at h2
  simpa using h2

set_option maxHeartbeats 4000000 in
theorem l92Chain_any (B g : Nat) (p : Int) (w : World) (h : Rdr w B g p) (p0 : 0 ≤ p) (p1 : p ≤ 900000) :
    Calls Try.prog 37 #[.pointer (some ⟨g, 0, none⟩)] w (DrawTwo B g p 9 (fun u v => -1 ≤ u ∧ u ≤ 1000000001 ∧ -1 ≤ v ∧ v ≤ 1000000001) w) := by
  have hl := h.lt
  go_enter Try.func37, Try.ntmps37
  go_wp2_with fail
  refine (pick_any B g p 10 _ h p0 (by omega) (by omega) (by omega)).mono ?_
  rintro e w1 ⟨v, v0, v1, rfl, hr1, hg1⟩
  have hs1 := hg1.size
  by_cases c0 : v = 0
  · subst c0
    have hgl : g < w1.heap.size := by omega
    go_wp2_with fail
    refine wp_region_any (by kernel_rfl) ?_
    refine wpAny_inv ?_ (ChI B g p w1) ?_ ?_ ?_ _ _ _ _ ?_ ?_
    · exact hord_of (by kernel_rfl)
    · intro _ _ _ h; exact h.1
    · intro listed a w i hI hi
      obtain ⟨hsz, u7, u8, u9, u10, u11, u12, u13, u14, u15, u16, u2, u3, s1, s2, x, y, rfl, hF⟩ := hI
      have hn := not_of hi hsz
      have hlt : i < 12 := ready_lt hi
      have hi12 : i = 0 ∨ i = 1 ∨ i = 2 ∨ i = 3 ∨ i = 4 ∨ i = 5 ∨ i = 6 ∨ i = 7 ∨ i = 8 ∨ i = 9 ∨ i = 10 ∨ i = 11 := by omega
      rcases hi12 with rfl | rfl | rfl | rfl | rfl | rfl | rfl | rfl | rfl | rfl | rfl | rfl
      · refine wpOp_step rfl (fun K hK => ?_)
        go_simp
        exact hK _ _ (chI_mk hsz (by omega) (hF.step0 hn))
      · refine wpOp_step rfl (fun K hK => ?_)
        go_simp
        exact hK _ _ (chI_mk hsz (by omega) (hF.step1 hn))
      · have d1 := dep_of hi rfl (e := ⟨1, .data⟩) (by simp) rfl
        obtain rfl := hF.f1 d1
        have hr := hF.rdr
        refine wpOp_step rfl (fun K hK => ?_)
        go_simp
        refine (pick_any B g _ 4 _ hr (by split <;> split <;> omega) (by split <;> split <;> omega) (by omega) (by omega)).mono ?_
        rintro e w' ⟨v, v0, v1, rfl, hr2, hg2⟩
        obtain ⟨x2, rfl⟩ := Int.eq_ofNat_of_zero_le v0
        exact hK _ _ (chI_mk hsz (by omega) (hF.step2 hn d1 (by omega) hr2 hg2))
      · have d0 := dep_of hi rfl (e := ⟨0, .data⟩) (by simp) rfl
        have d2 := dep_of hi rfl (e := ⟨2, .data⟩) (by simp) rfl
        obtain ⟨rfl, hb, hne⟩ := hF.f0 d0
        obtain ⟨rfl, hx⟩ := hF.f2 d2
        have hx1 : (x : Int) < 4 := by omega
        have hx0 : (0 : Int) ≤ x := by omega
        refine wpOp_step rfl (fun K hK => ?_)
        go_simp
        exact hK _ _ (chI_mk hsz (by omega) (hF.step3 hn d0 d2))
      · have d3 := dep_of hi rfl (e := ⟨3, .data⟩) (by simp) rfl
        have d0 := hF.c3_0 d3
        have d2 := hF.c3_2 d3
        obtain rfl := hF.f3 d3
        have hc := chZ1_cell (hF.f0 d0).2.1 (hF.f2 d2).2
        refine wpOp_step rfl (fun K hK => ?_)
        go_simp
        exact hK _ _ (chI_mk hsz (by omega) (hF.step4 hn d2 d3))
      · refine wpOp_step rfl (fun K hK => ?_)
        go_simp
        exact hK _ _ (chI_mk hsz (by omega) (hF.step5 hn))
      · refine wpOp_step rfl (fun K hK => ?_)
        go_simp
        exact hK _ _ (chI_mk hsz (by omega) (hF.step6 hn))
      · have d6 := dep_of hi rfl (e := ⟨6, .data⟩) (by simp) rfl
        have d2 := dep_of hi rfl (e := ⟨2, .chain⟩) (by simp) rfl
        obtain rfl := hF.f6 d6
        have hr := hF.rdr
        refine wpOp_step rfl (fun K hK => ?_)
        go_simp
        refine (pick_any B g _ 3 _ hr (by split <;> split <;> omega) (by split <;> split <;> omega) (by omega) (by omega)).mono ?_
        rintro e w' ⟨v, v0, v1, rfl, hr2, hg2⟩
        obtain ⟨y2, rfl⟩ := Int.eq_ofNat_of_zero_le v0
        exact hK _ _ (chI_mk hsz (by omega) (hF.step7 hn d2 d6 (by omega) hr2 hg2))
      · have d5 := dep_of hi rfl (e := ⟨5, .data⟩) (by simp) rfl
        have d7 := dep_of hi rfl (e := ⟨7, .data⟩) (by simp) rfl
        obtain ⟨rfl, hb, hne⟩ := hF.f5 d5
        obtain ⟨rfl, hx⟩ := hF.f7 d7
        have hx1 : (y : Int) < 3 := by omega
        have hx0 : (0 : Int) ≤ y := by omega
        refine wpOp_step rfl (fun K hK => ?_)
        go_simp
        exact hK _ _ (chI_mk hsz (by omega) (hF.step8 hn d5 d7))
      · have d8 := dep_of hi rfl (e := ⟨8, .data⟩) (by simp) rfl
        have d5 := hF.c8_5 d8
        have d7 := hF.c8_7 d8
        obtain rfl := hF.f8 d8
        have hc := chZ2_cell (hF.f5 d5).2.1 (hF.f7 d7).2
        refine wpOp_step rfl (fun K hK => ?_)
        go_simp
        exact hK _ _ (chI_mk hsz (by omega) (hF.step9 hn d7 d8))
      · have d4 := dep_of hi rfl (e := ⟨4, .data⟩) (by simp) rfl
        obtain rfl := hF.f4 d4
        refine wpOp_step rfl (fun K hK => ?_)
        go_simp
        exact hK _ _ (chI_mk hsz (by omega) (hF.step10 hn d4))
      · have d9 := dep_of hi rfl (e := ⟨9, .data⟩) (by simp) rfl
        obtain rfl := hF.f9 d9
        refine wpOp_step rfl (fun K hK => ?_)
        go_simp
        exact hK _ _ (chI_mk hsz (by omega) (hF.step11 hn d9))
    · intro listed a w hI hall
      obtain ⟨hsz, u7, u8, u9, u10, u11, u12, u13, u14, u15, u16, u2, u3, s1, s2, x, y, rfl, hF⟩ := hI
      have l2 := hall 2 (by decide)
      have l7 := hall 7 (by decide)
      obtain rfl := hF.f10 (hall 10 (by decide))
      obtain rfl := hF.f11 (hall 11 (by decide))
      have hx := chZ1_bd (hF.f2 l2).2
      have hy := chZ2_bd (hF.f7 l7).2
      have hr := hF.rdr
      simp only [l2, l7, if_true] at hr
      have ho := hF.old
      have HX := Lib.hid (And.intro hx hy)
      clear hF hall hx hy l2 l7
      go_wp2_with fail
      go_ret2
      exact ⟨ix chZ1 x, ix chZ2 y, p + 1 + 1 + 1, by have := HX.out; omega, by omega, by omega, rfl, hr, hg1.trans ho⟩
    · decide
    · exact chI_start hr1 ⟨rfl, rfl, rfl, Nat.le_refl _, fun _ _ _ => rfl⟩ hgl
  · have c0' : (v == 0) = false := beq_eq_false_iff_ne.2 c0
    clear c0
    go_wp2_with fail
    refine (pick_any B g (p + 1) 300 _ hr1 (by omega) (by omega) (by omega) (by omega)).mono ?_
    rintro e w2 ⟨x, x0, x1, rfl, hr2, hg2⟩
    go_wp2_with fail
    refine (pick_any B g (p + 1 + 1) 4 _ hr2 (by omega) (by omega) (by omega) (by omega)).mono ?_
    rintro e w3 ⟨y, y0, y1, rfl, hr3, hg3⟩
    have hm := Int.mul_le_mul (show x ≤ 300 by omega) (show 1 + y ≤ 4 by omega) (by omega) (by omega)
    have hm0 := Int.mul_nonneg x0 (show 0 ≤ 1 + y by omega)
    go_wp2_with fail
    refine (pick_any B g (p + 1 + 1 + 1) 300 _ hr3 (by omega) (by omega) (by omega) (by omega)).mono ?_
    rintro e w4 ⟨z, z0, z1, rfl, hr4, hg4⟩
    go_wp2_with fail
    go_ret2
    exact ⟨x * (1 + y), z, p + 1 + 1 + 1 + 1, by omega, by omega, by omega, rfl, hr4, ((hg1.trans hg2).trans hg3).trans hg4⟩

/-- two drawn integers, nothing old turned. -/
def DrewTwo (w : World) (e : Ending) (w' : World) : Prop := ∃ u v : Int, (-1 ≤ u ∧ u ≤ 1000000001 ∧ -1 ≤ v ∧ v ≤ 1000000001) ∧ e = .returned (.tuple #[.int .i64 u, .int .i64 v]) ∧ Below w.heap.size w w'
theorem drawChainOf_any (A : Option Addr) (len cap : Nat) (zs : List Int) (w : World) (hs : Sl .u8 w A len cap zs) :
    Calls Try.prog 21 #[.slice A len cap] w (DrewTwo w) := by
  have HS := Lib.hid hs
  clear hs
  go_enter Try.func21, Try.ntmps21
  go_wp2_with fail
  refine (l6Open_any A len cap zs _ HS.out).mono ?_
  rintro e w1 ⟨g, rfl, hr1, hb1⟩
  go_wp2_with fail
  refine (l92Chain_any _ g 0 _ hr1 (by omega) (by omega)).mono ?_
  rintro e w2 ⟨u, v, p', hv, -, -, rfl, hr2, hg2⟩
  go_wp2_with fail
  go_ret2
  exact ⟨u, v, hv, rfl, below_of_grown hb1 hr1 hg2⟩

end Go.Proofs.Ytomojiipgabhfaa
