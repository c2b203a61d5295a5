/- The walks of the laws FnNotchesWorth, FnNotchesJoin, FnNotchesCut. -/
import Derived.Test.YtahlflennmdckaaNotK
import Derived.Deep.RegionHeld3
namespace Go.Proofs.Ytahlflennmdckaa
open Go.RowKit Go.PlainAid
set_option linter.unusedVariables false
set_option linter.unusedSimpArgs false

theorem below_drawn {w w1 w2 : World} {g : Nat} {p : Int} (hb : Below w.heap.size w w1) (hr : Rdr w1 w.heap.size g p) (hg : w1.grownBy w2 (some g)) : Below w.heap.size w w2 :=
  hb.grown hg hb.size (fun k e => by injection e with e; rw [← e]; exact hr.lt.1)

def DrawS (w : World) (e : Ending) (w' : World) : Prop := ∃ s : ByteArray, s.size ≤ 46 ∧ e = .returned (.string s) ∧ Below w.heap.size w w'
def DrawS2 (w : World) (e : Ending) (w' : World) : Prop := ∃ s t : ByteArray, s.size ≤ 46 ∧ t.size ≤ 46 ∧ e = .returned (.tuple #[.string s, .string t]) ∧ Below w.heap.size w w'

theorem drawNotchesWorth (A : Option Addr) (len cap : Nat) (zs : List Int) (w : World) (hs : Sl .u8 w A len cap zs) :
    Calls Try.prog 18 #[.slice A len cap] w (DrawS w) := by
  have HS := Lib.hid hs
  clear hs
  go_enter Try.func18, Try.ntmps18
  go_wp2_with fail
  refine (l6Open_any A len cap zs _ HS.out).mono ?_
  rintro e w1 ⟨g, rfl, hr, hb⟩
  go_wp2_with fail
  refine (l92Notches_any _ g 0 _ hr (by omega) (by omega)).mono ?_
  rintro e w2 ⟨s, p', hsz, _, _, rfl, hr2, hg2⟩
  go_wp2_with fail
  go_ret
  exact ⟨s, hsz, rfl, below_drawn hb hr hg2⟩
theorem drawNotchesJoin (A : Option Addr) (len cap : Nat) (zs : List Int) (w : World) (hs : Sl .u8 w A len cap zs) :
    Calls Try.prog 22 #[.slice A len cap] w (DrawS2 w) := by
  have HS := Lib.hid hs
  clear hs
  go_enter Try.func22, Try.ntmps22
  go_wp2_with fail
  refine (l6Open_any A len cap zs _ HS.out).mono ?_
  rintro e w1 ⟨g, rfl, hr, hb⟩
  go_wp2_with fail
  refine (l92Notches_any _ g 0 _ hr (by omega) (by omega)).mono ?_
  rintro e w2 ⟨s, p', hsz, q1, q2, rfl, hr2, hg2⟩
  go_wp2_with fail
  refine (l92Notches_any _ g p' _ hr2 (by omega) (by omega)).mono ?_
  rintro e w3 ⟨t, p'', hsz2, _, _, rfl, hr3, hg3⟩
  go_wp2_with fail
  go_ret2
  exact ⟨s, t, hsz, hsz2, rfl, below_drawn hb hr (hg2.trans hg3)⟩
def ls8 : List ByteArray := [⟨#[77]⟩, ⟨#[67]⟩, ⟨#[88]⟩, ⟨#[73]⟩, ⟨#[73]⟩, ⟨#[]⟩, ⟨#[120]⟩, ⟨#[77, 77]⟩]
theorem ls8_size : ∀ s ∈ ls8, s.size ≤ 10 := by decide
theorem drawNotchesCut (A : Option Addr) (len cap : Nat) (zs : List Int) (w : World) (hs : Sl .u8 w A len cap zs) :
    Calls Try.prog 23 #[.slice A len cap] w (DrawS2 w) := by
  have HS := Lib.hid hs
  clear hs
  go_enter Try.func23, Try.ntmps23
  go_wp2_with fail
  refine (l6Open_any A len cap zs _ HS.out).mono ?_
  rintro e w1 ⟨g, rfl, hr, hb⟩
  go_wp2_with fail
  refine (l92Notches_any _ g 0 _ hr (by omega) (by omega)).mono ?_
  rintro e w2 ⟨s, p', hsz, q1, q2, rfl, hr2, hg2⟩
  have hgl := hr2.lt.2
  have L3 := lits_cell w2 ls8 #[.string ⟨#[77]⟩, .string ⟨#[67]⟩, .string ⟨#[88]⟩, .string ⟨#[73]⟩, .string ⟨#[73]⟩, .string ⟨#[]⟩, .string ⟨#[120]⟩, .string ⟨#[77, 77]⟩] rfl
  have OF := of_any w.heap.size g w2.heap.size p' ls8 8 8 _ (hr2.alloc _) (by omega) (by omega) rfl (by omega) (by omega) (by simp) (by omega) L3
  clear L3
  go_wp2_with (go_at_call 60; refine OF.mono ?_; rintro e w3 ⟨r, p'', hr', _, _, rfl, hr3, hg3⟩; have hrs := ls8_size r hr')
  go_ret2
  exact ⟨s, r, hsz, by omega, rfl, below_drawn hb hr (grown_alloc_trans _ hg2 hg3)⟩

theorem iv_wo (s : ByteArray) (hs : s.size ≤ 1000) {x : Int} (hx : wo s.data.toList = x) (w : World) : Calls Try.prog 19 #[.string s] w fun e w' => e = .returned (.int .i64 x) ∧ Below w.heap.size w w' := by
  have := iNotchesWorth s w (by omega); rwa [hx] at this
theorem ext_size (s : ByteArray) (a b : Nat) : (s.extract a b).size ≤ s.size := by simp [ByteArray.size_extract]; omega

set_option maxRecDepth 100000 in
set_option maxHeartbeats 4000000 in
theorem walkFnNotchesWorth (a : Option Addr) (len cap : Nat) (zs : List Int) (a1 : Option Addr) (len1 cap1 : Nat) (zs1 : List Int) (w : World) (hs : Sl .u8 w a len cap zs) (hs1 : Sl .u8 w a1 len1 cap1 zs1) :
    Calls Try.prog 5 #[.slice a len cap, .slice a1 len1 cap1] w fun e w' => e = .returned (.bool true) ∧ Below w.heap.size w w' := by
  have HS := Lib.hid hs
  obtain ⟨-, hlc, hcm, -, -⟩ := hs
  obtain ⟨-, hlc1, hcm1, -, -⟩ := hs1
  unfold maxLen at hcm hcm1
  by_cases hbig : len ≤ 1048576
  case neg =>
    have hbig' : decide (1048576 < len) = true := by simp; omega
    go_enter Try.func5, Try.ntmps5
    go_wp2_with fail
    go_ret
    exact ⟨rfl, Below.refl _ _⟩
  by_cases hbig1 : len1 ≤ 1048576
  case neg =>
    have hbig' : decide (1048576 < len1) = true := by simp; omega
    have hbig'' : decide (1048576 < len) = false := by simp; omega
    go_enter Try.func5, Try.ntmps5
    go_wp2_with fail
    go_ret
    exact ⟨rfl, Below.refl _ _⟩
  go_enter Try.func5, Try.ntmps5
  go_wp2_with fail
  refine (drawNotchesWorth a len cap zs _ HS.out).mono ?_
  rintro e w1 ⟨s, hsz, rfl, hb1⟩
  obtain ⟨x, hx⟩ : ∃ x, wo s.data.toList = x := ⟨_, rfl⟩
  have c1 := iv_wo s (by omega) hx
  have c2 : ∀ w, Calls Try.prog 20 #[.string s] w fun e w' => e = .returned (.int .i64 x) ∧ ∃ n, w' = w.drewN n := fun w => by have := sNotchesWorth s w (by omega); rwa [hx] at this
  cases hv : nvB s with
  | false =>
    have hn := wo_no hv
    have hneg : x < 0 := by omega
    clear hx hv hn
    go_wp2_with (first | (go_at_call 19; (with_reducible refine (c1 _).mono ?_); rintro e w2 ⟨rfl, hb2⟩) | (go_at_call 20; (with_reducible refine (c2 _).mono ?_); rintro e w3 ⟨rfl, n3, rfl⟩))
    go_ret
    exact ⟨rfl, below_drewN (hb1.trans (hb2.mono hb1.size)) n3⟩
  | true =>
    obtain ⟨_, hx0, hx9⟩ := sum_wo hv
    have hno := no_wo hv
    obtain ⟨kk, hkk⟩ : ∃ kk : Nat, (len1 : Int) % ((s.size : Int) + 1) = (kk : Int) := ⟨((len1 : Int) % ((s.size : Int) + 1)).toNat, by have := Int.emod_nonneg (len1 : Int) (show (s.size : Int) + 1 ≠ 0 by omega); omega⟩
    have hk1 : kk ≤ s.size := by have := Int.emod_lt_of_pos (len1 : Int) (show 0 < (s.size : Int) + 1 by omega); omega
    obtain ⟨s1, s2, s3, s4, s5⟩ := wo_split hv kk hk1
    obtain ⟨x1, hx1⟩ : ∃ x1, wo (s.extract 0 kk).data.toList = x1 := ⟨_, rfl⟩
    obtain ⟨x2, hx2⟩ : ∃ x2, wo (s.extract kk s.size).data.toList = x2 := ⟨_, rfl⟩
    have d1 := iv_wo (s.extract 0 kk) (by have := ext_size s 0 kk; omega) hx1
    have d2 := iv_wo (s.extract kk s.size) (by have := ext_size s kk s.size; omega) hx2
    have c3 : ∀ w, Calls Try.prog 21 #[.int .i64 x] w fun e w' => e = .returned (.tuple #[.string s, .bool true]) ∧ Below w.heap.size w w' := fun w => by
      have := iNotchesOf x w; rw [← hx, hno.1, hno.2] at this; rw [hx] at this; exact this
    rw [hx] at hx0 hx9
    rw [hx1, hx2, hx] at s1
    rw [hx1] at s2 s3
    rw [hx2] at s4 s5
    have hs1' : (x1 + x2 == x) = true := by simp; omega
    have WS : IntKind.i64.wrap (x1 + x2) = x1 + x2 := IntWalk.i64_in _ (by omega)
    have HT := Lib.hid s1
    clear hx hv hno s1 hx1 hx2
    have k0 : (0 : Int) ≤ kk := by omega
    have k1 : (kk : Int) ≤ s.size := by omega
    go_wp2_with (first | (go_at_call 19; (with_reducible refine (c1 _).mono ?_); rintro e w2 ⟨rfl, hb2⟩) | (go_at_call 20; (with_reducible refine (c2 _).mono ?_); rintro e w3 ⟨rfl, n3, rfl⟩) | (go_at_call 21; (with_reducible refine (c3 _).mono ?_); rintro e w4 ⟨rfl, hb4⟩))
    go_region_held3 (fun _ => True) (trivial) (first | (go_at_call 19; (with_reducible refine (d1 _).mono ?_); rintro e w5 ⟨rfl, hb5⟩) | (go_at_call 19; (with_reducible refine (d2 _).mono ?_); rintro e w6 ⟨rfl, hb6⟩))
    go_wp2_with fail
    go_ret
    refine ⟨rfl, ?_⟩
    have b2 := hb1.trans (hb2.mono hb1.size)
    have b3 := below_drewN b2 n3
    have b4 := b3.trans (hb4.mono b3.size)
    have b5 := b4.drew.trans (hb5.mono b4.size)
    exact b5.trans (hb6.mono b5.size)

set_option maxRecDepth 100000 in
set_option maxHeartbeats 4000000 in
theorem walkFnNotchesJoin (a : Option Addr) (len cap : Nat) (zs : List Int) (w : World) (hs : Sl .u8 w a len cap zs) :
    Calls Try.prog 6 #[.slice a len cap] w fun e w' => e = .returned (.bool true) ∧ Below w.heap.size w w' := by
  have HS := Lib.hid hs
  obtain ⟨-, hlc, hcm, -, -⟩ := hs
  unfold maxLen at hcm
  by_cases hbig : len ≤ 1048576
  case neg =>
    have hbig' : decide (1048576 < len) = true := by simp; omega
    go_enter Try.func6, Try.ntmps6
    go_wp2_with fail
    go_ret
    exact ⟨rfl, Below.refl _ _⟩
  go_enter Try.func6, Try.ntmps6
  go_wp2_with fail
  refine (drawNotchesJoin a len cap zs _ HS.out).mono ?_
  rintro e w1 ⟨s, t, hsz, htz, rfl, hb1⟩
  have c1 := fun w => iNotchesJoin s t w (by omega) (by omega)
  have c2 := fun w => sNotchesJoin s t w (by omega) (by omega)
  cases hv : joB s t with
  | false =>
    rw [hv] at c1 c2
    clear hv
    go_wp2_with (first | (go_at_call 15; (with_reducible refine (c1 _).mono ?_); rintro e w2 ⟨rfl, hb2⟩) | (go_at_call 14; (with_reducible refine (c2 _).mono ?_); rintro e w3 ⟨rfl, n3, rfl⟩))
    go_ret
    exact ⟨rfl, below_drewN (hb1.trans (hb2.mono hb1.size)) n3⟩
  | true =>
    have c3 := fun w => iNotchesJoin t s w (by omega) (by omega)
    rw [(jo_comm s t).1, (jo_comm s t).2] at c3
    rw [hv] at c1 c2 c3
    obtain ⟨va, vb, hw, vr, hl, hm⟩ := jo_law hv
    have sa := (sum_wo va).2
    have sb := (sum_wo vb).2
    generalize joR s t = R at *
    obtain ⟨x, hx⟩ : ∃ x, wo s.data.toList = x := ⟨_, rfl⟩
    obtain ⟨y, hy⟩ : ∃ y, wo t.data.toList = y := ⟨_, rfl⟩
    rw [hx] at hw sa
    rw [hy] at hw sb
    have d1 := iv_wo s (by omega) hx
    have d2 := iv_wo t (by omega) hy
    have d3 := iv_wo R (by omega) hw
    have hle : decide (R.size ≤ s.size + t.size) = true := by simpa using hl
    have hle2 : decide ((R.size : Int) ≤ (s.size : Int) + t.size) = true := by simp; omega
    have hm1 : (((s.size : Int) + t.size - R.size) % 9 == 0) = true := by simp; omega
    obtain ⟨sa1, sa2⟩ := sa
    obtain ⟨sb1, sb2⟩ := sb
    clear hv va vb hw vr hm hx hy
    have tok : True := trivial
    go_wp2_with (first | (go_at_call 15; (with_reducible refine (c1 _).mono ?_); rintro e w2 ⟨rfl, hb2⟩) | (go_at_call 14; (with_reducible refine (c2 _).mono ?_); rintro e w3 ⟨rfl, n3, rfl⟩) | (go_at_call 15; (with_reducible refine (c3 _).mono ?_); rintro e w4 ⟨rfl, hb4⟩) | (go_at_call 19; (with_reducible refine (d3 _).mono ?_); rintro e w5 ⟨rfl, hb5⟩) | (go_at_call 19; (with_reducible refine (d1 _).mono ?_); rintro e w6 ⟨rfl, hb6⟩) | (go_at_call 19; (with_reducible refine (d2 _).mono ?_); rintro e w7 ⟨rfl, hb7⟩))
    go_ret
    refine ⟨rfl, ?_⟩
    have b2 := hb1.trans (hb2.mono hb1.size)
    have b3 := below_drewN b2 n3
    have b4 := b3.trans (hb4.mono b3.size)
    have b5 := b4.trans (hb5.mono b4.size)
    have b6 := b5.trans (hb6.mono b5.size)
    exact b6.trans (hb7.mono b6.size)

set_option maxRecDepth 100000 in
set_option maxHeartbeats 4000000 in
theorem walkFnNotchesCut (a : Option Addr) (len cap : Nat) (zs : List Int) (w : World) (hs : Sl .u8 w a len cap zs) :
    Calls Try.prog 7 #[.slice a len cap] w fun e w' => e = .returned (.bool true) ∧ Below w.heap.size w w' := by
  have HS := Lib.hid hs
  obtain ⟨-, hlc, hcm, -, -⟩ := hs
  unfold maxLen at hcm
  by_cases hbig : len ≤ 1048576
  case neg =>
    have hbig' : decide (1048576 < len) = true := by simp; omega
    go_enter Try.func7, Try.ntmps7
    go_wp2_with fail
    go_ret
    exact ⟨rfl, Below.refl _ _⟩
  go_enter Try.func7, Try.ntmps7
  go_wp2_with fail
  refine (drawNotchesCut a len cap zs _ HS.out).mono ?_
  rintro e w1 ⟨s, t, hsz, htz, rfl, hb1⟩
  have c1 := fun w => iNotchesCut s t w (by omega) (by omega)
  have c2 := fun w => sNotchesCut s t w (by omega) (by omega)
  cases hv : cuB s t with
  | false =>
    rw [hv] at c1 c2
    clear hv
    go_wp2_with (first | (go_at_call 17; (with_reducible refine (c1 _).mono ?_); rintro e w2 ⟨rfl, hb2⟩) | (go_at_call 16; (with_reducible refine (c2 _).mono ?_); rintro e w3 ⟨rfl, n3, rfl⟩))
    go_ret
    exact ⟨rfl, below_drewN (hb1.trans (hb2.mono hb1.size)) n3⟩
  | true =>
    have c3 := fun w => iNotchesJoin s t w (by omega) (by omega)
    obtain ⟨j1, j2, hl, vr, i, hi, hw⟩ := cu_law hv
    rw [j1, j2] at c3
    rw [hv] at c1 c2
    have vs := (jo_law j2).1
    have sa := (sum_wo vs).2
    generalize cuR s t = R at *
    obtain ⟨x, hx⟩ : ∃ x, wo s.data.toList = x := ⟨_, rfl⟩
    rw [hx] at hw sa
    have d1 := iv_wo s (by omega) hx
    have d3 := iv_wo R (by omega) hw
    have hle : ((R.size : Int) == (s.size : Int) + 1) = true := by simp; omega
    obtain ⟨sa1, sa2⟩ := sa
    clear hv j1 j2 vs hw vr hl hx
    have : i = 0 ∨ i = 1 ∨ i = 2 ∨ i = 3 := by omega
    rcases this with e | e | e | e <;> subst e
    all_goals
      simp only [p10] at d3
      have tok : True := trivial
      go_wp2_with (first | (go_at_call 17; (with_reducible refine (c1 _).mono ?_); rintro e w2 ⟨rfl, hb2⟩) | (go_at_call 16; (with_reducible refine (c2 _).mono ?_); rintro e w3 ⟨rfl, n3, rfl⟩) | (go_at_call 15; (with_reducible refine (c3 _).mono ?_); rintro e w4 ⟨rfl, hb4⟩) | (go_at_call 19; (with_reducible refine (d3 _).mono ?_); rintro e w5 ⟨rfl, hb5⟩) | (go_at_call 19; (with_reducible refine (d1 _).mono ?_); rintro e w6 ⟨rfl, hb6⟩))
      go_ret
      refine ⟨by have e : ∀ d : Int, x + d - x = d := fun d => by omega
                 simp [e], ?_⟩
      have b2 := hb1.trans (hb2.mono hb1.size)
      have b3 := below_drewN b2 n3
      have b4 := b3.trans (hb4.mono b3.size)
      have b5 := b4.trans (hb5.mono b4.size)
      exact b5.trans (hb6.mono b5.size)

end Go.Proofs.Ytahlflennmdckaa
