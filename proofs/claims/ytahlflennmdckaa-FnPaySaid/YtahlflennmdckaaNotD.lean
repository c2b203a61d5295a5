/- The walks of NotchesValid, NotchesWorth, NotchesOf, of the program and of the reference. -/
import Derived.Test.YtahlflennmdckaaNotC
import Derived.Test.YtahlflennmdckaaIn
import Derived.Deep.RegionHeld3
import Derived.Outline
namespace Go.Proofs.Ytahlflennmdckaa
open Go.RowKit Go.PlainAid
set_option linter.unusedVariables false
set_option linter.unusedSimpArgs false

/-- A text is notches. -/
def nvB (s : ByteArray) : Bool := (nrun s.data.toList ns0).isSome

theorem iNotchesValid (s : ByteArray) (w : World) (hs : s.size ≤ 4611686018427387) :
    Calls Try.prog 65 #[.string s] w fun e w' => e = .returned (.bool (nvB s)) ∧ Below w.heap.size w w' := by
  go_enter Try.func65, Try.ntmps65
  go_wp2_with (go_at_call 54; refine (notchCounts s _ hs).mono ?_; rintro e w' ⟨st, ok, rfl, h1, h2, hb⟩)
  go_ret
  refine ⟨ret_bool ?_, hb.alloc hb.size _⟩
  cases ok
  · rw [nvB, h2 rfl]; rfl
  · rw [nvB, h1 rfl]; rfl

theorem wo_some {s : ByteArray} {st : NS} (h : nrun s.data.toList ns0 = some st) : wo s.data.toList = nworth st := by unfold wo; rw [h]
theorem wo_none {s : ByteArray} (h : nrun s.data.toList ns0 = none) : wo s.data.toList = -1 := by unfold wo; rw [h]

theorem lw0 (w : World) : Calls Try.prog 56 #[.int .i64 0] w fun e w' => e = .returned (.int .i64 1000) ∧ w = w' := letterWorth 0 w (by omega) (by omega)
theorem lw1 (w : World) : Calls Try.prog 56 #[.int .i64 1] w fun e w' => e = .returned (.int .i64 100) ∧ w = w' := letterWorth 1 w (by omega) (by omega)
theorem lw2 (w : World) : Calls Try.prog 56 #[.int .i64 2] w fun e w' => e = .returned (.int .i64 10) ∧ w = w' := letterWorth 2 w (by omega) (by omega)
theorem lw3 (w : World) : Calls Try.prog 56 #[.int .i64 3] w fun e w' => e = .returned (.int .i64 1) ∧ w = w' := letterWorth 3 w (by omega) (by omega)

/-- The worth of the first k kinds. -/
def pw (st : NS) (k : Nat) : Int := if k = 0 then 0 else if k = 1 then 1000 * st.a else if k = 2 then 1000 * st.a + 100 * st.b else if k = 3 then 1000 * st.a + 100 * st.b + 10 * st.c else nworth st

set_option maxHeartbeats 1000000 in
theorem iNotchesWorth (s : ByteArray) (w : World) (hs : s.size ≤ 4611686018427387) :
    Calls Try.prog 19 #[.string s] w fun e w' => e = .returned (.int .i64 (wo s.data.toList)) ∧ Below w.heap.size w w' := by
  go_enter Try.func19, Try.ntmps19
  go_wp2_with (go_at_call 54; refine (notchCounts s _ hs).mono ?_; rintro e w1 ⟨st, ok, rfl, h1, h2, hb⟩; clear hs; cases ok <;> simp at h1 h2)
  · go_ret
    exact ⟨ret_int (wo_none h2).symm, hb.alloc hb.size _⟩
  · have HN := Lib.hid (wo_some h1)
    obtain ⟨o1, o2, o3, o4⟩ := (nrun0 h1).1
    obtain ⟨a, b, c, d⟩ := st
    simp only [NS.get] at *
    clear h1
    have I0 : ∀ w, (Instr.index 63 (.agg #[.int .i64 (a : Nat), .int .i64 (b : Nat), .int .i64 (c : Nat), .int .i64 (d : Nat)]) (.int .i64 0)).run Try.prog w = .ok (.int .i64 (a : Nat)) w := fun _ => by kernel_rfl
    have I1 : ∀ w, (Instr.index 63 (.agg #[.int .i64 (a : Nat), .int .i64 (b : Nat), .int .i64 (c : Nat), .int .i64 (d : Nat)]) (.int .i64 1)).run Try.prog w = .ok (.int .i64 (b : Nat)) w := fun _ => by kernel_rfl
    have I2 : ∀ w, (Instr.index 63 (.agg #[.int .i64 (a : Nat), .int .i64 (b : Nat), .int .i64 (c : Nat), .int .i64 (d : Nat)]) (.int .i64 2)).run Try.prog w = .ok (.int .i64 (c : Nat)) w := fun _ => by kernel_rfl
    have I3 : ∀ w, (Instr.index 63 (.agg #[.int .i64 (a : Nat), .int .i64 (b : Nat), .int .i64 (c : Nat), .int .i64 (d : Nat)]) (.int .i64 3)).run Try.prog w = .ok (.int .i64 (d : Nat)) w := fun _ => by kernel_rfl
    simp at I0 I1 I2 I3 ⊢
    go_loop [5, 6, 7, 16] (fun x _ _ i => (i = .int .i64 0 ∧ x = .int .i64 0) ∨ (i = .int .i64 1 ∧ x = .int .i64 (1000 * a)) ∨ (i = .int .i64 2 ∧ x = .int .i64 (1000 * a + 100 * b)) ∨ (i = .int .i64 3 ∧ x = .int .i64 (1000 * a + 100 * b + 10 * c)) ∨ (i = .int .i64 4 ∧ x = .int .i64 (1000 * a + 100 * b + 10 * c + d))) (fun _ _ _ i => 4 - (intOf i).toNat)
    case atStart => left; exact ⟨rfl, rfl⟩
    case round =>
      rcases hrel with ⟨rfl, rfl⟩ | ⟨rfl, rfl⟩ | ⟨rfl, rfl⟩ | ⟨rfl, rfl⟩ | ⟨rfl, rfl⟩
      · go_wp2_with (go_at_call 56; refine (lw0 _).mono ?_; rintro e w' ⟨rfl, rfl⟩)
        go_round
        case rel => right; left; exact ⟨by go_num, by go_num⟩
        case measure => simp [intOf]
      · go_wp2_with (go_at_call 56; refine (lw1 _).mono ?_; rintro e w' ⟨rfl, rfl⟩)
        go_round
        case rel => right; right; left; exact ⟨by go_num, by go_num⟩
        case measure => simp [intOf]
      · go_wp2_with (go_at_call 56; refine (lw2 _).mono ?_; rintro e w' ⟨rfl, rfl⟩)
        go_round
        case rel => right; right; right; left; exact ⟨by go_num, by go_num⟩
        case measure => simp [intOf]
      · go_wp2_with (go_at_call 56; refine (lw3 _).mono ?_; rintro e w' ⟨rfl, rfl⟩)
        go_round
        case rel => right; right; right; right; exact ⟨by go_num, by go_num⟩
        case measure => simp [intOf]
      · go_wp2
        go_ret
        exact ⟨ret_int (by rw [HN.out]; simp only [nworth]; omega), hb.alloc hb.size _⟩

theorem iNotchesOf_no (n : Int) (w : World) (h : n < 0 ∨ 9999 < n) :
    Calls Try.prog 21 #[.int .i64 n] w fun e w' => e = .returned (.tuple #[.string ⟨#[]⟩, .bool false]) ∧ w = w' := by
  by_cases h0 : n < 0
  · go_enter Try.func21, Try.ntmps21
    go_wp2
    go_ret2
    exact ⟨rfl, rfl⟩
  · have h1 : 9999 < n := by omega
    clear h
    go_enter Try.func21, Try.ntmps21
    go_wp2
    go_ret2
    exact ⟨rfl, rfl⟩

/-- The text of a worth. -/
def ntx (n : Nat) : ByteArray := ⟨(ncan (nsOf n)).toArray⟩

theorem repeatL_one (x : UInt8) (n : Nat) : Lib.repeatL [x] n = List.replicate n x := by
  induction n with
  | zero => rfl
  | succ n ih => show [x] ++ Lib.repeatL [x] n = _; rw [ih, List.replicate_succ]; rfl
/-- A text of at most b bytes whose letters are l. -/
def Txt (r : ByteArray) (l : List UInt8) : Prop := r.data.toList = l
theorem Txt.size {r : ByteArray} {l : List UInt8} (h : Txt r l) : r.size = l.length := by unfold Txt at h; subst h; exact (Array.length_toList).symm
theorem Txt.cat {r s : ByteArray} {l m : List UInt8} (h : Txt r l) (k : Txt s m) : Txt (r ++ s) (l ++ m) := by
  unfold Txt at *; rw [← h, ← k]; simp
theorem Txt.eq {r s : ByteArray} {l : List UInt8} (h : Txt r l) (k : Txt s l) : r = s := by
  apply ByteArray.ext; apply Array.ext'; rw [show r.data.toList = l from h, show s.data.toList = l from k]
theorem Txt.lit (l : List UInt8) : Txt ⟨l.toArray⟩ l := by simp [Txt]
def RepPost (x : UInt8) (c : Int) (w : World) (e : Ending) (w' : World) : Prop := ∃ r : ByteArray, Txt r (List.replicate c.toNat x) ∧ r.size ≤ 9 ∧ e = .returned (.string r) ∧ Below w.heap.size w w'
theorem rep_lit (x : UInt8) (c : Int) (w : World) (h0 : 0 ≤ c) (h9 : c ≤ 9) :
    Calls Try.prog 59 #[.string ⟨#[x]⟩, .int .i64 c] w (RepPost x c w) := by
  obtain ⟨k, rfl⟩ := Int.eq_ofNat_of_zero_le h0
  refine (Try.strings_Repeat ⟨#[x]⟩ k w (by omega) ?_).mono fun e w' h => ⟨⟨(Lib.repeatL [x] k).toArray⟩, ?_, ?_, h.1, h.2⟩
  · show 1 * k ≤ _; omega
  · rw [repeatL_one]; exact Txt.lit _
  · rw [repeatL_one]; simp [ByteArray.size]; omega
theorem below_draw {w wr w2 : World} (hb : Below w.heap.size w wr) (hb2 : Below wr.drew.heap.size wr.drew w2) : Below w.heap.size w w2 := hb.drew.trans (hb2.mono hb.size)

set_option maxHeartbeats 4000000 in
theorem iNotchesOf_yes (n : Nat) (w : World) (h : n ≤ 9999) :
    Calls Try.prog 21 #[.int .i64 n] w fun e w' => e = .returned (.tuple #[.string (ntx n), .bool true]) ∧ Below w.heap.size w w' := by
  have h0 : (0 : Int) ≤ n := by omega
  have h9 : (n : Int) ≤ 9999 := by omega
  have h0' : decide ((n : Int) < 0) = false := by simp
  have h9' : decide (9999 < (n : Int)) = false := by simp; omega
  go_enter Try.func21, Try.ntmps21
  go_wp2
  go_loopw [0, 4, 5] (fun mv x i wr => ∃ (m : Nat) (l : List UInt8) (r : ByteArray), Below w.heap.size w wr ∧ Txt r l ∧ r.size ≤ 36 ∧ (
    ((m = n ∧ l = [] ∧ r.size ≤ 0) ∧ i = .int .i64 0 ∧ mv = .int .i64 m ∧ x = .string r) ∨
    ((m = n % 1000 ∧ l = List.replicate (n / 1000) 77 ∧ r.size ≤ 9) ∧ i = .int .i64 1 ∧ mv = .int .i64 m ∧ x = .string r) ∨
    ((m = n % 100 ∧ l = List.replicate (n / 1000) 77 ++ List.replicate (n / 100 % 10) 67 ∧ r.size ≤ 18) ∧ i = .int .i64 2 ∧ mv = .int .i64 m ∧ x = .string r) ∨
    ((m = n % 10 ∧ l = List.replicate (n / 1000) 77 ++ List.replicate (n / 100 % 10) 67 ++ List.replicate (n / 10 % 10) 88 ∧ r.size ≤ 27) ∧ i = .int .i64 3 ∧ mv = .int .i64 m ∧ x = .string r) ∨
    ((m = 0 ∧ l = ncan (nsOf n) ∧ r.size ≤ 36) ∧ i = .int .i64 4 ∧ mv = .int .i64 m ∧ x = .string r))) (fun _ _ i _ => 4 - (intOf i).toNat)
  case atStart => exact ⟨n, [], ⟨#[]⟩, Below.refl _ _, rfl, by simp [ByteArray.size], .inl ⟨⟨rfl, rfl, by simp [ByteArray.size]⟩, rfl, rfl, rfl⟩⟩
  case round =>
    obtain ⟨m, l, r, hb, htx, hr36, ⟨he, rfl, rfl, rfl⟩ | ⟨he, rfl, rfl, rfl⟩ | ⟨he, rfl, rfl, rfl⟩ | ⟨he, rfl, rfl, rfl⟩ | ⟨he, rfl, rfl, rfl⟩⟩ := hrel
    · have hm : m ≤ 9999 := by omega
      have hrs := he.2.2
      have HE := Lib.hid (And.intro he.1 he.2.1)
      clear he
      have hq0 : (0 : Int) ≤ (m : Int) / 1000 := by omega
      have hq9 : (m : Int) / 1000 ≤ 9 := by omega
      have WQ : IntKind.i64.wrap ((m : Int) / 1000) = (m : Int) / 1000 := IntWalk.i64_in _ (by omega)
      have SL : ∀ w, (Instr.slice 9 (.string ⟨#[77, 67, 88, 73]⟩) (some (.int .i64 0)) (some (.int .i64 1)) none).run Try.prog w = .ok (.string ⟨#[77]⟩) w := fun _ => by kernel_rfl
      have SM : ∀ w, (Instr.sliceAt 9 (.string ⟨#[77, 67, 88, 73]⟩) (some (.int .i64 0)) (some (.int .i64 1)) none).run Try.prog w = .ok (.string ⟨#[77]⟩) w := fun _ => by kernel_rfl
      have WS : IntKind.i64.wrap 1 = 1 := by rfl
      have WS2 : IntKind.i64.wrap (0 + 1) = 1 := by rfl
      go_wp2_with fail
      go_region_held3 (fun _ => True) (trivial) (first | (go_at_call 56; refine (lw0 _).mono ?_; rintro e w' ⟨rfl, rfl⟩) | (go_at_call 59; refine (rep_lit 77 _ _ hq0 hq9).mono ?_; rintro e w2 ⟨r2, htx2, hr2, rfl, hb2⟩; have hcat : ¬ 9223372036854775807 < r.size + r2.size := by omega))
      clear WQ SL SM WS WS2
      go_wp2_with (go_at_call 56; refine (lw0 _).mono ?_; rintro e w' ⟨rfl, rfl⟩)
      go_roundw
      case rel =>
        have e1 := HE.out.1
        have e2 := HE.out.2
        have hn1 : m % 1000 = n % 1000 := by omega
        have hn2 : m / 1000 = n / 1000 := by omega
        have hl : l ++ List.replicate (m / 1000) 77 = List.replicate (n / 1000) 77 := by rw [hn2, e2]; rfl
        have ht : ((m : Int) / 1000).toNat = m / 1000 := by omega
        have hsz : (r ++ r2).size ≤ 9 := by rw [ByteArray.size_append]; omega
        rw [ht] at htx2
        refine ⟨m % 1000, l ++ List.replicate (m / 1000) 77, r ++ r2, below_draw hb hb2, htx.cat htx2, by omega, ?_⟩
        right; left
        exact ⟨⟨hn1, hl, hsz⟩, rfl, by go_num, rfl⟩
      case measure => simp [intOf]
    · have hm : m ≤ 999 := by omega
      have hrs := he.2.2
      have HE := Lib.hid (And.intro he.1 he.2.1)
      clear he
      have hq0 : (0 : Int) ≤ (m : Int) / 100 := by omega
      have hq9 : (m : Int) / 100 ≤ 9 := by omega
      have WQ : IntKind.i64.wrap ((m : Int) / 100) = (m : Int) / 100 := IntWalk.i64_in _ (by omega)
      have SL : ∀ w, (Instr.slice 9 (.string ⟨#[77, 67, 88, 73]⟩) (some (.int .i64 1)) (some (.int .i64 2)) none).run Try.prog w = .ok (.string ⟨#[67]⟩) w := fun _ => by kernel_rfl
      have SM : ∀ w, (Instr.sliceAt 9 (.string ⟨#[77, 67, 88, 73]⟩) (some (.int .i64 1)) (some (.int .i64 2)) none).run Try.prog w = .ok (.string ⟨#[67]⟩) w := fun _ => by kernel_rfl
      have WS : IntKind.i64.wrap 2 = 2 := by rfl
      have WS2 : IntKind.i64.wrap (1 + 1) = 2 := by rfl
      go_wp2_with fail
      go_region_held3 (fun _ => True) (trivial) (first | (go_at_call 56; refine (lw1 _).mono ?_; rintro e w' ⟨rfl, rfl⟩) | (go_at_call 59; refine (rep_lit 67 _ _ hq0 hq9).mono ?_; rintro e w2 ⟨r2, htx2, hr2, rfl, hb2⟩; have hcat : ¬ 9223372036854775807 < r.size + r2.size := by omega))
      clear WQ SL SM WS WS2
      go_wp2_with (go_at_call 56; refine (lw1 _).mono ?_; rintro e w' ⟨rfl, rfl⟩)
      go_roundw
      case rel =>
        have e1 := HE.out.1
        have e2 := HE.out.2
        have hn1 : m % 100 = n % 100 := by omega
        have hn2 : m / 100 = n / 100 % 10 := by omega
        have hl : l ++ List.replicate (m / 100) 67 = List.replicate (n / 1000) 77 ++ List.replicate (n / 100 % 10) 67 := by rw [hn2, e2]
        have ht : ((m : Int) / 100).toNat = m / 100 := by omega
        have hsz : (r ++ r2).size ≤ 18 := by rw [ByteArray.size_append]; omega
        rw [ht] at htx2
        refine ⟨m % 100, l ++ List.replicate (m / 100) 67, r ++ r2, below_draw hb hb2, htx.cat htx2, by omega, ?_⟩
        right; right; left
        exact ⟨⟨hn1, hl, hsz⟩, rfl, by go_num, rfl⟩
      case measure => simp [intOf]
    · have hm : m ≤ 99 := by omega
      have hrs := he.2.2
      have HE := Lib.hid (And.intro he.1 he.2.1)
      clear he
      have hq0 : (0 : Int) ≤ (m : Int) / 10 := by omega
      have hq9 : (m : Int) / 10 ≤ 9 := by omega
      have WQ : IntKind.i64.wrap ((m : Int) / 10) = (m : Int) / 10 := IntWalk.i64_in _ (by omega)
      have SL : ∀ w, (Instr.slice 9 (.string ⟨#[77, 67, 88, 73]⟩) (some (.int .i64 2)) (some (.int .i64 3)) none).run Try.prog w = .ok (.string ⟨#[88]⟩) w := fun _ => by kernel_rfl
      have SM : ∀ w, (Instr.sliceAt 9 (.string ⟨#[77, 67, 88, 73]⟩) (some (.int .i64 2)) (some (.int .i64 3)) none).run Try.prog w = .ok (.string ⟨#[88]⟩) w := fun _ => by kernel_rfl
      have WS : IntKind.i64.wrap 3 = 3 := by rfl
      have WS2 : IntKind.i64.wrap (2 + 1) = 3 := by rfl
      go_wp2_with fail
      go_region_held3 (fun _ => True) (trivial) (first | (go_at_call 56; refine (lw2 _).mono ?_; rintro e w' ⟨rfl, rfl⟩) | (go_at_call 59; refine (rep_lit 88 _ _ hq0 hq9).mono ?_; rintro e w2 ⟨r2, htx2, hr2, rfl, hb2⟩; have hcat : ¬ 9223372036854775807 < r.size + r2.size := by omega))
      clear WQ SL SM WS WS2
      go_wp2_with (go_at_call 56; refine (lw2 _).mono ?_; rintro e w' ⟨rfl, rfl⟩)
      go_roundw
      case rel =>
        have e1 := HE.out.1
        have e2 := HE.out.2
        have hn1 : m % 10 = n % 10 := by omega
        have hn2 : m / 10 = n / 10 % 10 := by omega
        have hl : l ++ List.replicate (m / 10) 88 = List.replicate (n / 1000) 77 ++ List.replicate (n / 100 % 10) 67 ++ List.replicate (n / 10 % 10) 88 := by rw [hn2, e2]
        have ht : ((m : Int) / 10).toNat = m / 10 := by omega
        have hsz : (r ++ r2).size ≤ 27 := by rw [ByteArray.size_append]; omega
        rw [ht] at htx2
        refine ⟨m % 10, l ++ List.replicate (m / 10) 88, r ++ r2, below_draw hb hb2, htx.cat htx2, by omega, ?_⟩
        right; right; right; left
        exact ⟨⟨hn1, hl, hsz⟩, rfl, by go_num, rfl⟩
      case measure => simp [intOf]
    · have hm : m ≤ 9 := by omega
      have hrs := he.2.2
      have HE := Lib.hid (And.intro he.1 he.2.1)
      clear he
      have hq0 : (0 : Int) ≤ (m : Int) := by omega
      have hq9 : (m : Int) ≤ 9 := by omega
      have WQ : IntKind.i64.wrap ((m : Int)) = (m : Int) := IntWalk.i64_in _ (by omega)
      have SL : ∀ w, (Instr.slice 9 (.string ⟨#[77, 67, 88, 73]⟩) (some (.int .i64 3)) (some (.int .i64 4)) none).run Try.prog w = .ok (.string ⟨#[73]⟩) w := fun _ => by kernel_rfl
      have SM : ∀ w, (Instr.sliceAt 9 (.string ⟨#[77, 67, 88, 73]⟩) (some (.int .i64 3)) (some (.int .i64 4)) none).run Try.prog w = .ok (.string ⟨#[73]⟩) w := fun _ => by kernel_rfl
      have WS : IntKind.i64.wrap 4 = 4 := by rfl
      have WS2 : IntKind.i64.wrap (3 + 1) = 4 := by rfl
      go_wp2_with fail
      go_region_held3 (fun _ => True) (trivial) (first | (go_at_call 56; refine (lw3 _).mono ?_; rintro e w' ⟨rfl, rfl⟩) | (go_at_call 59; refine (rep_lit 73 _ _ hq0 hq9).mono ?_; rintro e w2 ⟨r2, htx2, hr2, rfl, hb2⟩; have hcat : ¬ 9223372036854775807 < r.size + r2.size := by omega))
      clear WQ SL SM WS WS2
      go_wp2_with (go_at_call 56; refine (lw3 _).mono ?_; rintro e w' ⟨rfl, rfl⟩)
      go_roundw
      case rel =>
        have e1 := HE.out.1
        have e2 := HE.out.2
        have hn1 : m % 1 = 0 := by omega
        have hn2 : m / 1 = n % 10 := by omega
        have hl : l ++ List.replicate (m / 1) 73 = ncan (nsOf n) := by rw [hn2, e2]; rfl
        have ht : ((m : Int)).toNat = m / 1 := by omega
        have hsz : (r ++ r2).size ≤ 36 := by rw [ByteArray.size_append]; omega
        rw [ht] at htx2
        refine ⟨m % 1, l ++ List.replicate (m / 1) 73, r ++ r2, below_draw hb hb2, htx.cat htx2, by omega, ?_⟩
        right; right; right; right; skip
        exact ⟨⟨hn1, hl, hsz⟩, rfl, by go_num, rfl⟩
      case measure => simp [intOf]
    · have HE := Lib.hid he
      clear he
      go_wp2
      go_ret2
      refine ⟨?_, hb⟩
      have : r = ntx n := htx.eq (by rw [HE.out.2.1]; exact Txt.lit _)
      rw [this]
      rfl

end Go.Proofs.Ytahlflennmdckaa
