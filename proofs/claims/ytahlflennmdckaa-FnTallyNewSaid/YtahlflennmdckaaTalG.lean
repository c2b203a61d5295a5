/- The walk of the draw of a new tally; the law FnTallyNew. -/
import Derived.Test.YtahlflennmdckaaTalF
import Derived.Test.YtahlflennmdckaaNotL
namespace Go.Proofs.Ytahlflennmdckaa
open Go.RowKit Go.PlainAid
set_option linter.unusedVariables false
set_option linter.unusedSimpArgs false

/-- the literal of the draw. -/
def litT : List Int := [0, 9999, 10000, -5]
theorem blk_lit {w : World} {s x : Nat} (h : Blk w s 3 #[.int .i64 0, .int .i64 9999, .int .i64 10000, .int .i64 (-5)]) (hx : x < 4) : w.cell? ⟨s, x, none⟩ = some (.int .i64 (ix litT x)) := by
  rw [h.cell]
  have : x = 0 ∨ x = 1 ∨ x = 2 ∨ x = 3 := by omega
  rcases this with e | e | e | e <;> subst e <;> rfl
theorem grown_drew {w w1 : World} {r : Option Nat} (h : w.grownBy w1 r) : w.grownBy w1.drew r := ⟨h.os, h.tape, h.output, h.size, h.block⟩
def TnDraw (w : World) (e : Ending) (w' : World) : Prop := ∃ d c n : Int, e = .returned (.tuple #[.int .i64 d, .int .i64 c, .int .i64 n]) ∧ Below w.heap.size w w'

set_option maxHeartbeats 4000000 in
theorem drawTallyNew (a : Option Addr) (len cap : Nat) (zs : List Int) (w : World) (hs : Sl .u8 w a len cap zs) :
    Calls Try.prog 24 #[.slice a len cap] w (TnDraw w) := by
  go_enter Try.func24, Try.ntmps24
  go_wp2_with fail
  refine (l6Open_any a len cap zs _ hs).mono ?_
  rintro e w1 ⟨g, rfl, hr, hb⟩
  go_wp2_with fail
  refine (pick_any _ g 0 6 _ hr (by omega) (by omega) (by omega) (by omega)).mono ?_
  rintro e w2 ⟨v, v0, v1, rfl, hr2, hg2⟩
  have hgl := hr2.lt.2
  by_cases c0 : v = 0
  · subst c0
    have hB0 : Rdr w2.drew _ g _ := hr2
    have hA0 : Rdr (w2.alloc (.cells #[.int .i64 0, .int .i64 9999, .int .i64 10000, .int .i64 (-5)] 3)).drew _ g _ := hr2.alloc (.cells #[.int .i64 0, .int .i64 9999, .int .i64 10000, .int .i64 (-5)] 3)
    have hL0 : Blk (w2.alloc (.cells #[.int .i64 0, .int .i64 9999, .int .i64 10000, .int .i64 (-5)] 3)).drew w2.heap.size _ _ := Blk.new w2 3 #[.int .i64 0, .int .i64 9999, .int .i64 10000, .int .i64 (-5)]
    have hng : w2.heap.size ≠ g := by omega
    have gA0 : w2.grownBy (w2.alloc (.cells #[.int .i64 0, .int .i64 9999, .int .i64 10000, .int .i64 (-5)] 3)).drew (some g) := grown_drew (World.grownBy_alloc w2 _ (some g))
    have gB0 : w2.grownBy w2.drew (some g) := grown_drew (World.grownBy.refl _ _)
    clear hs
    go_wp2_with fail
    go_region_law (first
      | (go_simp; go_at_call 61; refine (pick_any _ g (0 + 1 + 1 + 1) 4 _ hB2 (by omega) (by omega) (by omega) (by omega)).mono ?_; rintro e w5 ⟨x, x0, x1, rfl, hB3, gB3⟩; have gF := gB2.trans gB3; obtain ⟨x, rfl⟩ := Int.eq_ofNat_of_zero_le x0; have hx4 : x < 4 := (by omega); first | (have hL3 := hL2.grown gB3 (by simpa using hn2); have hcl := blk_lit hL3 hx4) | (have hcl := blk_lit (Blk.new w5 3 #[.int .i64 0, .int .i64 9999, .int .i64 10000, .int .i64 (-5)]) hx4))
      | (go_simp; go_at_call 61; refine (pick_any _ g (0 + 1 + 1 + 1) 4 _ (hB2.alloc (.cells #[.int .i64 0, .int .i64 9999, .int .i64 10000, .int .i64 (-5)] 3)) (by omega) (by omega) (by omega) (by omega)).mono ?_; rintro e w5 ⟨x, x0, x1, rfl, hB3, gB3⟩; have gF := gB2.trans ((World.grownBy_alloc _ (.cells #[.int .i64 0, .int .i64 9999, .int .i64 10000, .int .i64 (-5)] 3) (some g)).trans gB3); obtain ⟨x, rfl⟩ := Int.eq_ofNat_of_zero_le x0; have hx4 : x < 4 := (by omega); have hL3 := (Blk.new w4 3 #[.int .i64 0, .int .i64 9999, .int .i64 10000, .int .i64 (-5)]).grown gB3 (by have := hB2.lt; simp; omega); have hcl := blk_lit hL3 hx4)
      | (go_simp; go_at_call 61; refine (pick_any _ g (0 + 1 + 1) 7 _ hB1 (by omega) (by omega) (by omega) (by omega)).mono ?_; rintro e w4 ⟨yv, y0, y1, rfl, hB2, gB2'⟩; have gB2 := gB1.trans gB2'; try (have hL2 := hL1.grown gB2' (by simpa using hn1); have hn2 := hn1))
      | (go_simp; go_at_call 61; refine (pick_any _ g (0 + 1 + 1) 7 _ (hB1.alloc (.cells #[.int .i64 0, .int .i64 9999, .int .i64 10000, .int .i64 (-5)] 3)) (by omega) (by omega) (by omega) (by omega)).mono ?_; rintro e w4 ⟨yv, y0, y1, rfl, hB2, gB2'⟩; have gB2 := gB1.trans ((World.grownBy_alloc _ (.cells #[.int .i64 0, .int .i64 9999, .int .i64 10000, .int .i64 (-5)] 3) (some g)).trans gB2'); have hn2 : w3.heap.size ≠ g := (by have := hB1.lt; omega); have hL2 := (Blk.new w3 3 #[.int .i64 0, .int .i64 9999, .int .i64 10000, .int .i64 (-5)]).grown gB2' (by simpa using hn2))
      | (go_simp; go_at_call 61; refine (pick_any _ g (0 + 1) 7 _ hA0 (by omega) (by omega) (by omega) (by omega)).mono ?_; rintro e w3 ⟨zv, z0, z1, rfl, hB1, gB1'⟩; have gB1 := gA0.trans gB1'; have hn1 := hng; have hL1 := hL0.grown gB1' (by simpa using hng))
      | (go_simp; go_at_call 61; refine (pick_any _ g (0 + 1) 7 _ hB0 (by omega) (by omega) (by omega) (by omega)).mono ?_; rintro e w3 ⟨zv, z0, z1, rfl, hB1, gB1'⟩; have gB1 := gB0.trans gB1'))
    all_goals
      go_wp2_with fail
      go_ret3
      refine ⟨_, _, _, rfl, ?_⟩
      first
        | exact below_drawn hb hr (hg2.trans gF)
        | exact below_drawn hb hr ((hg2.trans gF).trans (World.grownBy_alloc _ _ _))
  · have c0' : (v == 0) = false := beq_eq_false_iff_ne.2 c0
    clear c0
    go_wp2_with fail
    refine (pick_any _ g (0 + 1) 5 _ hr2 (by omega) (by omega) (by omega) (by omega)).mono ?_
    rintro e w3 ⟨x, x0, x1, rfl, hr3, hg3⟩
    go_wp2_with fail
    refine (pick_any _ g (0 + 1 + 1) 5 _ hr3 (by omega) (by omega) (by omega) (by omega)).mono ?_
    rintro e w4 ⟨y, y0, y1, rfl, hr4, hg4⟩
    go_wp2_with fail
    refine (pick_any _ g (0 + 1 + 1 + 1) 300 _ hr4 (by omega) (by omega) (by omega) (by omega)).mono ?_
    rintro e w5 ⟨z, z0, z1, rfl, hr5, hg5⟩
    go_wp2_with fail
    go_ret3
    exact ⟨x, y, 1 + z, rfl, below_drawn hb hr (((hg2.trans hg3).trans hg4).trans hg5)⟩

end Go.Proofs.Ytahlflennmdckaa
