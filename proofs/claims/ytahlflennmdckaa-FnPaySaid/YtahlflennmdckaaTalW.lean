/- The walks of the draws of lists of tallies. -/
import Derived.Test.YtahlflennmdckaaTalF
import Derived.Test.YtahlflennmdckaaTalI
import Derived.Test.YtahlflennmdckaaNotL
namespace Go.Proofs.Ytahlflennmdckaa
open Go.RowKit Go.PlainAid
set_option linter.unusedVariables false
set_option linter.unusedSimpArgs false

theorem rdr_set {w : World} {B g : Nat} {p : Int} (h : Rdr w B g p) {b : Nat} (hb : B ≤ b) (hg : b ≠ g) (i : Nat) (u : Value) : Rdr (w.setCell ⟨b, i, none⟩ u) B g p :=
  h.grown (row := some b) ⟨rfl, rfl, rfl, by simp [World.setCell], fun k hk hne => Below.heap_setCell w _ u k (by rintro rfl; exact hne rfl)⟩ (fun k e => by injection e with e; omega)
theorem grownBy_set {w w' : World} {g b : Nat} (h : w.grownBy w' (some g)) (hb : w.heap.size ≤ b) (i : Nat) (u : Value) : w.grownBy (w'.setCell ⟨b, i, none⟩ u) (some g) :=
  ⟨h.os, h.tape, h.output, by simpa [World.setCell] using h.size, fun k hk hne => (Below.heap_setCell w' _ u k (by simp; omega)).trans (h.block k hk hne)⟩
theorem rdr_set4 {w : World} {B g : Nat} {p : Int} (h : Rdr w B g p) {b : Nat} (hb : B ≤ b) (hg : b ≠ g) (x0 x1 x2 x3 : Value) : Rdr ((((w.setCell ⟨b, 0, none⟩ x0).setCell ⟨b, 1, none⟩ x1).setCell ⟨b, 2, none⟩ x2).setCell ⟨b, 3, none⟩ x3) B g p :=
  rdr_set (rdr_set (rdr_set (rdr_set h hb hg _ _) hb hg _ _) hb hg _ _) hb hg _ _
theorem grownBy_set4 {w w' : World} {g b : Nat} (h : w.grownBy w' (some g)) (hb : w.heap.size ≤ b) (x0 x1 x2 x3 : Value) : w.grownBy ((((w'.setCell ⟨b, 0, none⟩ x0).setCell ⟨b, 1, none⟩ x1).setCell ⟨b, 2, none⟩ x2).setCell ⟨b, 3, none⟩ x3) (some g) :=
  grownBy_set (grownBy_set (grownBy_set (grownBy_set h hb _ _) hb _ _) hb _ _) hb _ _

theorem below_grown' {w w' : World} (hb : Below w.heap.size w w') (row : Option Nat) : w.grownBy w' row := ⟨hb.os, hb.tape, hb.output, hb.size, fun k hk _ => hb.block k hk⟩
/-- A tally was drawn. -/
def TyPost (B g : Nat) (p : Int) (k : Nat) (w : World) (e : Ending) (w' : World) : Prop :=
  ∃ (t : Tal) (p' : Int), t.s.size ≤ 46 ∧ t.f.size ≤ 46 ∧ p ≤ p' ∧ p' ≤ p + k ∧ e = .returned (.agg #[.int .i64 t.d, .int .i64 t.c, .string t.s, .string t.f]) ∧ Rdr w' B g p' ∧ w.grownBy w' (some g)
theorem ntx_size (n : Nat) (h : n ≤ 9999) : (ntx n).size ≤ 36 := by
  have := noR_size (n : Int)
  rwa [noR_yes (by unfold noB; simp; omega), Int.toNat_natCast] at this
theorem tnT_size (d c n : Int) : (tnT d c n).s.size ≤ 36 ∧ (tnT d c n).f.size ≤ 36 := by
  cases h : tnB d c n with
  | false => rw [tn_no h]; exact ⟨by simp [tal0, ByteArray.size], by simp [tal0, ByteArray.size]⟩
  | true =>
    rw [tn_yes h]
    unfold tnB at h
    simp at h
    exact ⟨ntx_size _ (by omega), ntx_size _ (by omega)⟩
def lsF : List ByteArray := [⟨#[]⟩, ⟨#[73]⟩, ⟨#[73, 88]⟩]
theorem lsF_size : ∀ s ∈ lsF, s.size ≤ 10 := by decide
theorem blk4 {w : World} {g : Nat} {t : TypeId} {x0 x1 x2 x3 : Value} (h : Blk w g t #[x0, x1, x2, x3]) : w.cell? ⟨g, 0, none⟩ = some x0 ∧ w.cell? ⟨g, 1, none⟩ = some x1 ∧ w.cell? ⟨g, 2, none⟩ = some x2 ∧ w.cell? ⟨g, 3, none⟩ = some x3 ∧
    w.frozen? ⟨g, 0, none⟩ = false ∧ w.frozen? ⟨g, 1, none⟩ = false ∧ w.frozen? ⟨g, 2, none⟩ = false ∧ w.frozen? ⟨g, 3, none⟩ = false :=
  ⟨h.cell 0, h.cell 1, h.cell 2, h.cell 3, h.frozen 0, h.frozen 1, h.frozen 2, h.frozen 3⟩

set_option maxHeartbeats 4000000 in
theorem l92Tally_any (B g : Nat) (p : Int) (w : World) (h : Rdr w B g p) (p0 : 0 ≤ p) (p1 : p ≤ 850000) :
    Calls Try.prog 90 #[.pointer (some ⟨g, 0, none⟩)] w (TyPost B g p 6 w) := by
  have hgl := h.lt.2
  have hBg := h.lt.1
  have r0 := Blk.new w 36 #[.int .i64 0, .int .i64 0, .string ⟨#[]⟩, .string ⟨#[]⟩]
  go_enter Try.func90, Try.ntmps90
  go_wp2_with fail
  refine (pick_any B g p 5 _ (h.alloc _) p0 (by omega) (by omega) (by omega)).mono ?_
  rintro e w1 ⟨a, a0, a1, rfl, hr1, hg1⟩
  have R1 := Lib.hid (r0.grown hg1 (by simp; omega))
  have G1 := Lib.hid ((World.grownBy_alloc w (.cells #[.int .i64 0, .int .i64 0, .string ⟨#[]⟩, .string ⟨#[]⟩] 36) (some g)).trans hg1)
  clear r0
  go_wp2_with fail
  refine (pick_any B g (p + 1) 4 _ hr1 (by omega) (by omega) (by omega) (by omega)).mono ?_
  rintro e w2 ⟨b, b0, b1, rfl, hr2, hg2⟩
  have R2 := Lib.hid (R1.out.grown hg2 (by simp; omega))
  have G2 := Lib.hid (G1.out.trans hg2)
  go_wp2_with fail
  refine (pick_any B g (p + 1 + 1) 60 _ hr2 (by omega) (by omega) (by omega) (by omega)).mono ?_
  rintro e w3 ⟨y, y0, y1, rfl, hr3, hg3⟩
  have R3 := Lib.hid (R2.out.grown hg3 (by simp; omega))
  have G3 := Lib.hid (G2.out.trans hg3)
  go_wp2_with fail
  refine (pick_any B g (p + 1 + 1 + 1) 20 _ hr3 (by omega) (by omega) (by omega) (by omega)).mono ?_
  rintro e w4 ⟨z, z0, z1, rfl, hr4, hg4⟩
  have R4 := Lib.hid (R3.out.grown hg4 (by simp; omega))
  have G4 := Lib.hid (G3.out.trans hg4)
  have m0 : 0 ≤ y * (1 + z) := Int.mul_nonneg y0 (by omega)
  have m1 : y * (1 + z) ≤ 1200 := by
    have : y * (1 + z) ≤ 60 * 20 := Int.mul_le_mul (by omega) (by omega) (by omega) (by omega)
    omega
  have cn := fun w => sTallyNew a ((a + 1 + b) % 5) (1 + y * (1 + z)) w
  obtain ⟨zs1, zs2⟩ := tnT_size a ((a + 1 + b) % 5) (1 + y * (1 + z))
  unfold TalPost at cn
  generalize tnT a ((a + 1 + b) % 5) (1 + y * (1 + z)) = T at *
  generalize tnB a ((a + 1 + b) % 5) (1 + y * (1 + z)) = V at *
  obtain ⟨td, tc, tS, tF⟩ := T
  simp only at cn zs1 zs2
  clear hg1 hg2 hg3 hg4 hr1 hr2 hr3 R1 R2 R3 G1 G2 G3
  go_wp2_with fail
  refine (cn _).mono ?_
  rintro e w5 ⟨rfl, hb5⟩
  have hgr5 := below_grown' hb5 (some g)
  have R5 := Lib.hid (R4.out.grown hgr5 (by simp; omega))
  have G5 := Lib.hid (G4.out.trans hgr5)
  have hr5 := hr4.below hb5
  have z5 := hr5.lt.2
  have zw5 : w.heap.size < w5.heap.size := R5.out.lt
  have B5 := Blk.new w5 36 #[.int .i64 td, .int .i64 tc, .string tS, .string tF]
  clear cn hb5 hgr5 hr4 R4 G4
  go_wp2_with fail
  refine (pick_any B g (p + 1 + 1 + 1 + 1) 60 _ (hr5.alloc _) (by omega) (by omega) (by omega) (by omega)).mono ?_
  rintro e w6 ⟨v, v0, v1, rfl, hr6, hg6⟩
  have B6 := Lib.hid (B5.grown hg6 (by simp; omega))
  have R6 := Lib.hid ((R5.out.alloc _).grown hg6 (by simp; omega))
  have G6 := Lib.hid (G5.out.trans ((World.grownBy_alloc w5 _ (some g)).trans hg6))
  have z6 := hr6.lt.2
  have zb6 : w5.heap.size < w6.heap.size := B6.out.lt
  have nA : ¬ w5.heap.size = w.heap.size := by omega
  have nB : ¬ w.heap.size = w5.heap.size := by omega
  clear B5 R5 G5 hg6 hr5
  by_cases c0 : v = 0
  · subst c0
    have L6 := Blk.new w6 3 #[.int .i64 a, .int .i64 5, .int .i64 (-1)]
    go_wp2_with fail
    refine (pick_any B g (p + 1 + 1 + 1 + 1 + 1) 3 _ (hr6.alloc _) (by omega) (by omega) (by omega) (by omega)).mono ?_
    rintro e w7 ⟨x, x0, x1, rfl, hr7, hg7⟩
    obtain ⟨x, rfl⟩ := Int.eq_ofNat_of_zero_le x0
    have hx3 : x < 3 := by omega
    have L7 := L6.grown hg7 (by simp; omega)
    have B7 := (B6.out.alloc (.cells #[.int .i64 a, .int .i64 5, .int .i64 (-1)] 3)).grown hg7 (by simp; omega)
    have R7 := (R6.out.alloc (.cells #[.int .i64 a, .int .i64 5, .int .i64 (-1)] 3)).grown hg7 (by simp; omega)
    have G7 := G6.out.trans ((World.grownBy_alloc w6 _ (some g)).trans hg7)
    obtain ⟨vv, hvv⟩ : ∃ vv : Int, w7.cell? ⟨w6.heap.size, x, none⟩ = some (.int .i64 vv) := by
      rw [L7.cell]
      have : x = 0 ∨ x = 1 ∨ x = 2 := by omega
      rcases this with e | e | e <;> subst e <;> exact ⟨_, rfl⟩
    obtain ⟨k0, k1, k2, k3, f0, f1, f2, f3⟩ := blk4 B7
    obtain ⟨q0, q1, q2, q3, e0, e1, e2, e3⟩ := blk4 R7
    clear L6 L7 hg7
    go_wp2_with fail
    refine bodyPost_ret (v := .agg #[.int .i64 td, .int .i64 vv, .string tS, .string tF]) (by simp [results, Try.results90, go_sem, q0, q1, q2, q3, nA, nB]) rfl ?_
    exact ⟨⟨td, vv, tS, tF⟩, _, by simp only; omega, by simp only; omega, by omega, by omega, rfl, rdr_set4 (rdr_set hr7 (by omega) (by omega) _ _) (by omega) (by omega) _ _ _ _, grownBy_set4 (grownBy_set G7 (by omega) _ _) (Nat.le_refl _) _ _ _ _⟩
  · have c0' : (v == 0) = false := beq_eq_false_iff_ne.2 c0
    by_cases c1 : v = 1
    · subst c1
      have LS := lits_cell w6 lsF #[.string ⟨#[]⟩, .string ⟨#[73]⟩, .string ⟨#[73, 88]⟩] rfl
      have OF := of_any B g w6.heap.size (p + 1 + 1 + 1 + 1 + 1) lsF 3 3 _ (hr6.alloc _) (by omega) (by omega) rfl (by omega) (by omega) (by simp) (by omega) LS
      clear LS
      go_wp2_with fail
      refine OF.mono ?_
      rintro e w7 ⟨r, p', hr, pp0, pp1, rfl, hr7, hg7⟩
      have hrs := lsF_size r hr
      have B7 := (B6.out.alloc (.cells #[.string ⟨#[]⟩, .string ⟨#[73]⟩, .string ⟨#[73, 88]⟩] 9)).grown hg7 (by simp; omega)
      have R7 := (R6.out.alloc (.cells #[.string ⟨#[]⟩, .string ⟨#[73]⟩, .string ⟨#[73, 88]⟩] 9)).grown hg7 (by simp; omega)
      have G7 := G6.out.trans ((World.grownBy_alloc w6 _ (some g)).trans hg7)
      obtain ⟨k0, k1, k2, k3, f0, f1, f2, f3⟩ := blk4 B7
      obtain ⟨q0, q1, q2, q3, e0, e1, e2, e3⟩ := blk4 R7
      clear hg7 hr OF
      go_wp2_with fail
      refine bodyPost_ret (v := .agg #[.int .i64 td, .int .i64 tc, .string tS, .string r]) (by simp [results, Try.results90, go_sem, q0, q1, q2, q3, nA, nB]) rfl ?_
      exact ⟨⟨td, tc, tS, r⟩, _, by simp only; omega, by simp only; omega, by omega, by omega, rfl, rdr_set4 (rdr_set hr7 (by omega) (by omega) _ _) (by omega) (by omega) _ _ _ _, grownBy_set4 (grownBy_set G7 (by omega) _ _) (Nat.le_refl _) _ _ _ _⟩
    · have c1' : (v == 1) = false := beq_eq_false_iff_ne.2 c1
      obtain ⟨k0, k1, k2, k3, f0, f1, f2, f3⟩ := blk4 B6.out
      obtain ⟨q0, q1, q2, q3, e0, e1, e2, e3⟩ := blk4 R6.out
      clear c0 c1
      go_wp2_with fail
      refine bodyPost_ret (v := .agg #[.int .i64 td, .int .i64 tc, .string tS, .string tF]) (by simp [results, Try.results90, go_sem, q0, q1, q2, q3, nA, nB]) rfl ?_
      exact ⟨⟨td, tc, tS, tF⟩, p + 1 + 1 + 1 + 1 + 1, by simp only; omega, by simp only; omega, by omega, by omega, rfl, rdr_set4 hr6 (by omega) (by omega) _ _ _ _, grownBy_set4 G6.out (Nat.le_refl _) _ _ _ _⟩

theorem ti_none0 (w : World) : OR (w.alloc (.cells #[] 36)) w.heap.size 36 4 (some ⟨w.heap.size, 0, none⟩) 0 0 [] :=
  World.ownsRow_lit w #[] 0 (Nat.le_refl _) (by simp [maxLen]) rfl
/-- Few tallies with short texts. -/
def Shrt (ts : List Tal) : Prop := ts.length ≤ 7 ∧ ∀ t ∈ ts, t.s.size ≤ 46 ∧ t.f.size ≤ 46
theorem Shrt.ts {ts : List Tal} (h : Shrt ts) : TS ts := fun t ht => by have := (h.2 t ht).1; omega
def TsPost (B g : Nat) (p : Int) (w : World) (e : Ending) (w' : World) : Prop :=
  ∃ (ts : List Tal) (A : Option Addr) (c : Nat) (p' : Int), Shrt ts ∧ p ≤ p' ∧ p' ≤ p + 50 ∧ e = .returned (.slice A ts.length c) ∧ TI w' w.heap.size A c ts ∧ Rdr w' B g p' ∧ w.grownBy w' (some g)
def Gath (ts : List Tal) (k : Nat) : Prop := ts.length = k ∧ ∀ t ∈ ts, t.s.size ≤ 46 ∧ t.f.size ≤ 46
theorem gath_next {ts : List Tal} {k : Nat} (h : Gath ts k) {t : Tal} (h1 : t.s.size ≤ 46) (h2 : t.f.size ≤ 46) : Gath (ts ++ [t]) (k + 1) :=
  ⟨by rw [List.length_append, h.1]; rfl, fun u hu => by
    rcases List.mem_append.1 hu with hu | hu
    · exact h.2 u hu
    · rw [List.mem_singleton] at hu; subst hu; exact ⟨h1, h2⟩⟩

set_option maxHeartbeats 4000000 in
theorem l92Tallies_any (B g : Nat) (p : Int) (w : World) (h : Rdr w B g p) (p0 : 0 ≤ p) (p1 : p ≤ 800000) :
    Calls Try.prog 74 #[.pointer (some ⟨g, 0, none⟩)] w (TsPost B g p w) := by
  have hgl := h.lt.2
  have hBg := h.lt.1
  have o0 := ti_none0 w
  go_enter Try.func74, Try.ntmps74
  go_wp2_with fail
  refine (pick_any B g p 8 _ (h.alloc _) p0 (by omega) (by omega) (by omega)).mono ?_
  rintro e w1 ⟨n, n0, n1, rfl, hr1, hg1⟩
  have o1 := o0.grown hg1 (fun b e => by simp at e; simp; omega)
  have G1 := (World.grownBy_alloc w (.cells #[] 36) (some g)).trans hg1
  clear hg1 o0
  go_wp2_with fail
  go_loopw [3, 5] (fun s i wr => ∃ (k : Nat) (ts : List Tal) (A : Option Addr) (c : Nat) (p' : Int), (k : Int) ≤ n ∧ i = .int .i64 k ∧ s = .slice A k c ∧ Hid (Gath ts k) ∧ OR wr w.heap.size 36 4 A c k (tcells ts) ∧ Rdr wr B g p' ∧ p ≤ p' ∧ p' ≤ p + 1 + 6 * k ∧ w.grownBy wr (some g)) (fun _ i _ => (n - intOf i).toNat)
  case atStart => exact ⟨0, [], _, _, _, n0, rfl, rfl, ⟨rfl, by simp⟩, o1, hr1, by omega, by omega, G1⟩
  case round =>
    obtain ⟨k, ts, A, c, p', hk, rfl, rfl, hga, ho, hr, q0, q1, hG⟩ := hrel
    clear o1 hr1 G1
    have hwr := hG.size
    by_cases hlt : (k : Int) < n
    · go_wp2_with fail
      refine (l92Tally_any B g p' _ hr (by omega) (by omega)).mono ?_
      rintro e w2 ⟨t, p2, z1, z2, r0, r1, rfl, hr2, hg2⟩
      have hG2 := hG.trans hg2
      have sp := OR.span ho
      have ho2 := Lib.hid (OR.grown ho hg2 (fun b e => by have := sp b e; simp; omega))
      have hB2 : w.heap.size ≤ w2.heap.size := hG2.size
      have hnx : Hid (Hid (Gath (ts ++ [t]) (k + 1))) := gath_next hga.out z1 z2
      have HC := Lib.hid (tcells_append ts [t])
      obtain ⟨td, tc, tS, tF⟩ := t
      go_wp2_with (at_builtin; refine wpList_pushC rfl _ _ 46 36 rfl _ 4 48 tally_info Try.underlying46 rfl (by omega) (by omega) rfl (by simp [Value.oneCell']) w.heap.size A c k _ rfl ho2.out w2.heap.size rfl rfl (by omega) hB2 ?_; intro A2 c2 w4 hown4 hg4 hb4 _)
      go_roundw
      case rel =>
        have sp2 := OR.span ho2.out
        refine ⟨k + 1, ts ++ [⟨td, tc, tS, tF⟩], A2, c2, p2, by omega, by go_num, rfl, hnx.out, ?_, hr2.grown hg4 (fun b e => by have := sp b e; omega), by omega, by omega, ?_⟩
        · rw [HC.out]; exact hown4
        · exact ⟨hb4.os.trans hG2.os, hb4.tape.trans hG2.tape, hb4.output.trans hG2.output, Nat.le_trans hG2.size hb4.size, fun b hb hne => (hb4.block b hb).trans (hG2.block b hb hne)⟩
      case measure => simp [intOf] <;> omega
    · have HE := Lib.hid (show (k : Int) = n by omega)
      go_wp2_with fail
      go_ret
      obtain ⟨rfl, hz⟩ := hga.out
      exact ⟨ts, A, c, p', ⟨by omega, hz⟩, by omega, by omega, rfl, ho, hr, hG⟩

def DtPost (w : World) (e : Ending) (w' : World) : Prop := ∃ (ts : List Tal) (A : Option Addr) (c : Nat), Shrt ts ∧ e = .returned (.slice A ts.length c) ∧ TI w' w.heap.size A c ts ∧ Below w.heap.size w w'
theorem drawTalliesBalance (A : Option Addr) (len cap : Nat) (zs : List Int) (w : World) (hs : Sl .u8 w A len cap zs) :
    Calls Try.prog 38 #[.slice A len cap] w (DtPost w) := by
  have HS := Lib.hid hs
  clear hs
  go_enter Try.func38, Try.ntmps38
  go_wp2_with fail
  refine (l6Open_any A len cap zs _ HS.out).mono ?_
  rintro e w1 ⟨g, rfl, hr, hb⟩
  go_wp2_with fail
  refine (l92Tallies_any _ g 0 _ hr (by omega) (by omega)).mono ?_
  rintro e w2 ⟨ts, A2, c2, p', hsh, q1, q2, rfl, ho, hr2, hg2⟩
  go_wp2_with fail
  go_ret
  exact ⟨ts, A2, c2, hsh, rfl, OR.mono ho hb.size, below_drawn hb hr hg2⟩
theorem drawTalliesMerge (A : Option Addr) (len cap : Nat) (zs : List Int) (w : World) (hs : Sl .u8 w A len cap zs) :
    Calls Try.prog 49 #[.slice A len cap] w (DtPost w) := by
  have HS := Lib.hid hs
  clear hs
  go_enter Try.func49, Try.ntmps49
  go_wp2_with fail
  refine (l6Open_any A len cap zs _ HS.out).mono ?_
  rintro e w1 ⟨g, rfl, hr, hb⟩
  go_wp2_with fail
  refine (l92Tallies_any _ g 0 _ hr (by omega) (by omega)).mono ?_
  rintro e w2 ⟨ts, A2, c2, p', hsh, q1, q2, rfl, ho, hr2, hg2⟩
  go_wp2_with fail
  go_ret
  exact ⟨ts, A2, c2, hsh, rfl, OR.mono ho hb.size, below_drawn hb hr hg2⟩

end Go.Proofs.Ytahlflennmdckaa
