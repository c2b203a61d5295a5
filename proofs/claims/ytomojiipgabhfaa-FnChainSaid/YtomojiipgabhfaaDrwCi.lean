/- The draw l92Chain: its first return by an invariant over its twelve operations. No condition. -/
import Derived.Test.YtomojiipgabhfaaDrwRt
import Derived.Test.YtomojiipgabhfaaInv
namespace Go.Proofs.Ytomojiipgabhfaa
open Go.RowKit
set_option linter.unusedVariables false

def chZ1 : List Int := [0, -1, 1000000000, 1000000001]
def chZ2 : List Int := [0, 1, 1000000000]
theorem chZ1_bd {k : Nat} (h : k < 4) : -1 ≤ ix chZ1 k ∧ ix chZ1 k ≤ 1000000001 := by
  have : k = 0 ∨ k = 1 ∨ k = 2 ∨ k = 3 := by omega
  rcases this with h | h | h | h <;> subst h <;> decide
theorem chZ2_bd {k : Nat} (h : k < 3) : -1 ≤ ix chZ2 k ∧ ix chZ2 k ≤ 1000000001 := by
  have : k = 0 ∨ k = 1 ∨ k = 2 := by omega
  rcases this with h | h | h <;> subst h <;> decide
theorem chZ1_cell {w : World} {s x : Nat} (h : w.heap[s]? = some (.cells #[.int .i64 0, .int .i64 (-1), .int .i64 1000000000, .int .i64 1000000001] 3 (0, 0))) (hx : x < 4) : w.cell? ⟨s, x, none⟩ = some (.int .i64 (ix chZ1 x)) := by
  rw [cell_of_row w s x _ _ _ h]
  have : x = 0 ∨ x = 1 ∨ x = 2 ∨ x = 3 := by omega
  rcases this with h | h | h | h <;> subst h <;> rfl
theorem chZ2_cell {w : World} {s x : Nat} (h : w.heap[s]? = some (.cells #[.int .i64 0, .int .i64 1, .int .i64 1000000000] 3 (0, 0))) (hx : x < 3) : w.cell? ⟨s, x, none⟩ = some (.int .i64 (ix chZ2 x)) := by
  rw [cell_of_row w s x _ _ _ h]
  have : x = 0 ∨ x = 1 ∨ x = 2 := by omega
  rcases this with h | h | h <;> subst h <;> rfl
theorem blkA {w : World} {b : Nat} {ob : Obj} (h : w.heap[b]? = some ob) (o : Obj) : (w.alloc o).heap[b]? = some ob := (Below.heap_alloc w o b (Array.getElem?_eq_some_iff.1 h).1).trans h
theorem blkG {w w' : World} {b g : Nat} {ob : Obj} (h : w.heap[b]? = some ob) (hg : w.grownBy w' (some g)) (hne : b ≠ g) : w'.heap[b]? = some ob :=
  (hg.block b (Array.getElem?_eq_some_iff.1 h).1 (fun e => hne (by injection e))).trans h

structure ChF (B g : Nat) (p : Int) (w1 : World) (l : Nat → Bool) (u7 u8 u9 u10 u11 u12 u13 u14 u15 u16 u2 u3 : Value) (s1 s2 x y : Nat) (w : World) : Prop where
  c3_0 : l 3 = true → l 0 = true
  c3_2 : l 3 = true → l 2 = true
  c8_5 : l 8 = true → l 5 = true
  c8_7 : l 8 = true → l 7 = true
  c4_2 : l 4 = true → l 2 = true
  c9_7 : l 9 = true → l 7 = true
  c7_2 : l 7 = true → l 2 = true
  c10_4 : l 10 = true → l 4 = true
  c11_9 : l 11 = true → l 9 = true
  f0 : l 0 = true → u7 = .slice (some ⟨s1, 0, none⟩) 4 4 ∧ w.heap[s1]? = some (.cells #[.int .i64 0, .int .i64 (-1), .int .i64 1000000000, .int .i64 1000000001] 3 (0, 0)) ∧ s1 ≠ g
  f1 : l 1 = true → u8 = .pointer (some ⟨g, 0, none⟩)
  f2 : l 2 = true → u9 = .int .i64 (x : Int) ∧ x < 4
  f3 : l 3 = true → u10 = .pointer (some ⟨s1, x, none⟩)
  f4 : l 4 = true → u11 = .int .i64 (ix chZ1 x)
  f5 : l 5 = true → u12 = .slice (some ⟨s2, 0, none⟩) 3 3 ∧ w.heap[s2]? = some (.cells #[.int .i64 0, .int .i64 1, .int .i64 1000000000] 3 (0, 0)) ∧ s2 ≠ g
  f6 : l 6 = true → u13 = .pointer (some ⟨g, 0, none⟩)
  f7 : l 7 = true → u14 = .int .i64 (y : Int) ∧ y < 3
  f8 : l 8 = true → u15 = .pointer (some ⟨s2, y, none⟩)
  f9 : l 9 = true → u16 = .int .i64 (ix chZ2 y)
  f10 : l 10 = true → u2 = .int .i64 (ix chZ1 x)
  f11 : l 11 = true → u3 = .int .i64 (ix chZ2 y)
  rdr : Rdr w B g (p + 1 + (if l 2 then 1 else 0) + (if l 7 then 1 else 0))
  old : w1.grownBy w (some g)
  gl : g < w1.heap.size

section
variable {B g : Nat} {p : Int} {w1 : World} {l : Nat → Bool} {u7 u8 u9 u10 u11 u12 u13 u14 u15 u16 u2 u3 : Value} {s1 s2 x y : Nat} {w : World}
theorem ChF.step0 (h : ChF B g p w1 l u7 u8 u9 u10 u11 u12 u13 u14 u15 u16 u2 u3 s1 s2 x y w) (hi : l 0 = false) : ChF B g p w1 (upd l 0) (.slice (some ⟨w.heap.size, 0, none⟩) 4 4) u8 u9 u10 u11 u12 u13 u14 u15 u16 u2 u3 w.heap.size s2 x y (w.alloc (.cells #[.int .i64 0, .int .i64 (-1), .int .i64 1000000000, .int .i64 1000000001] 3)) where
  c3_0 := fun _ => by simp [upd]
  c3_2 := by simpa [upd] using h.c3_2
  c8_5 := by simpa [upd] using h.c8_5
  c8_7 := by simpa [upd] using h.c8_7
  c4_2 := by simpa [upd] using h.c4_2
  c9_7 := by simpa [upd] using h.c9_7
  c7_2 := by simpa [upd] using h.c7_2
  c10_4 := by simpa [upd] using h.c10_4
  c11_9 := by simpa [upd] using h.c11_9
  f0 := fun _ => ⟨rfl, heap_alloc_new w _, by have := h.old.size; have := h.gl; omega⟩
  f1 := by simpa [upd] using h.f1
  f2 := by simpa [upd] using h.f2
  f3 := fun hl => by have hl : l 3 = true := (by simpa [upd] using hl); have := h.c3_0 hl; rw [hi] at this; cases this
  f4 := by simpa [upd] using h.f4
  f5 := fun hl => by have hl : l 5 = true := (by simpa [upd] using hl); obtain ⟨a, b, c⟩ := h.f5 hl; exact ⟨a, blkA b _, c⟩
  f6 := by simpa [upd] using h.f6
  f7 := by simpa [upd] using h.f7
  f8 := by simpa [upd] using h.f8
  f9 := by simpa [upd] using h.f9
  f10 := by simpa [upd] using h.f10
  f11 := by simpa [upd] using h.f11
  rdr := by simpa [upd] using h.rdr.alloc _
  old := h.old.trans (World.grownBy_alloc _ _ _)
  gl := h.gl
theorem ChF.step1 (h : ChF B g p w1 l u7 u8 u9 u10 u11 u12 u13 u14 u15 u16 u2 u3 s1 s2 x y w) (hi : l 1 = false) : ChF B g p w1 (upd l 1) u7 (.pointer (some ⟨g, 0, none⟩)) u9 u10 u11 u12 u13 u14 u15 u16 u2 u3 s1 s2 x y w where
  c3_0 := by simpa [upd] using h.c3_0
  c3_2 := by simpa [upd] using h.c3_2
  c8_5 := by simpa [upd] using h.c8_5
  c8_7 := by simpa [upd] using h.c8_7
  c4_2 := by simpa [upd] using h.c4_2
  c9_7 := by simpa [upd] using h.c9_7
  c7_2 := by simpa [upd] using h.c7_2
  c10_4 := by simpa [upd] using h.c10_4
  c11_9 := by simpa [upd] using h.c11_9
  f0 := by simpa [upd] using h.f0
  f1 := fun _ => rfl
  f2 := by simpa [upd] using h.f2
  f3 := by simpa [upd] using h.f3
  f4 := by simpa [upd] using h.f4
  f5 := by simpa [upd] using h.f5
  f6 := by simpa [upd] using h.f6
  f7 := by simpa [upd] using h.f7
  f8 := by simpa [upd] using h.f8
  f9 := by simpa [upd] using h.f9
  f10 := by simpa [upd] using h.f10
  f11 := by simpa [upd] using h.f11
  rdr := by simpa [upd] using h.rdr
  old := h.old
  gl := h.gl
theorem ChF.step2 (h : ChF B g p w1 l u7 u8 u9 u10 u11 u12 u13 u14 u15 u16 u2 u3 s1 s2 x y w) (hi : l 2 = false) (d1 : l 1 = true) {w' : World} {x2 : Nat} (hx : x2 < 4) (hr : Rdr w' B g (p + 1 + (if l 2 then 1 else 0) + (if l 7 then 1 else 0) + 1)) (hg : w.grownBy w' (some g)) : ChF B g p w1 (upd l 2) u7 u8 (.int .i64 (x2 : Int)) u10 u11 u12 u13 u14 u15 u16 u2 u3 s1 s2 x2 y w' where
  c3_0 := by simpa [upd] using h.c3_0
  c3_2 := fun _ => by simp [upd]
  c8_5 := by simpa [upd] using h.c8_5
  c8_7 := by simpa [upd] using h.c8_7
  c4_2 := fun _ => by simp [upd]
  c9_7 := by simpa [upd] using h.c9_7
  c7_2 := fun _ => by simp [upd]
  c10_4 := by simpa [upd] using h.c10_4
  c11_9 := by simpa [upd] using h.c11_9
  f0 := fun hl => by have hl : l 0 = true := (by simpa [upd] using hl); obtain ⟨a, b, c⟩ := h.f0 hl; exact ⟨a, blkG b hg c, c⟩
  f1 := by simpa [upd] using h.f1
  f2 := fun _ => ⟨rfl, hx⟩
  f3 := fun hl => by have hl : l 3 = true := (by simpa [upd] using hl); have := h.c3_2 hl; rw [hi] at this; cases this
  f4 := fun hl => by have hl : l 4 = true := (by simpa [upd] using hl); have := h.c4_2 hl; rw [hi] at this; cases this
  f5 := fun hl => by have hl : l 5 = true := (by simpa [upd] using hl); obtain ⟨a, b, c⟩ := h.f5 hl; exact ⟨a, blkG b hg c, c⟩
  f6 := by simpa [upd] using h.f6
  f7 := by simpa [upd] using h.f7
  f8 := by simpa [upd] using h.f8
  f9 := by simpa [upd] using h.f9
  f10 := fun hl => by have hl : l 10 = true := (by simpa [upd] using hl); have := h.c4_2 (h.c10_4 hl); rw [hi] at this; cases this
  f11 := by simpa [upd] using h.f11
  rdr := by have h7 : l 7 = false := (by cases h7 : l 7 with | false => rfl | true => have := h.c7_2 h7; rw [hi] at this; cases this); have := hr; rw [hi, h7] at this; simpa [upd, h7] using this
  old := h.old.trans hg
  gl := h.gl
theorem ChF.step3 (h : ChF B g p w1 l u7 u8 u9 u10 u11 u12 u13 u14 u15 u16 u2 u3 s1 s2 x y w) (hi : l 3 = false) (d0 : l 0 = true) (d2 : l 2 = true) : ChF B g p w1 (upd l 3) u7 u8 u9 (.pointer (some ⟨s1, x, none⟩)) u11 u12 u13 u14 u15 u16 u2 u3 s1 s2 x y w where
  c3_0 := fun _ => by simpa [upd] using d0
  c3_2 := fun _ => by simpa [upd] using d2
  c8_5 := by simpa [upd] using h.c8_5
  c8_7 := by simpa [upd] using h.c8_7
  c4_2 := by simpa [upd] using h.c4_2
  c9_7 := by simpa [upd] using h.c9_7
  c7_2 := by simpa [upd] using h.c7_2
  c10_4 := by simpa [upd] using h.c10_4
  c11_9 := by simpa [upd] using h.c11_9
  f0 := by simpa [upd] using h.f0
  f1 := by simpa [upd] using h.f1
  f2 := by simpa [upd] using h.f2
  f3 := fun _ => rfl
  f4 := by simpa [upd] using h.f4
  f5 := by simpa [upd] using h.f5
  f6 := by simpa [upd] using h.f6
  f7 := by simpa [upd] using h.f7
  f8 := by simpa [upd] using h.f8
  f9 := by simpa [upd] using h.f9
  f10 := by simpa [upd] using h.f10
  f11 := by simpa [upd] using h.f11
  rdr := by simpa [upd] using h.rdr
  old := h.old
  gl := h.gl
theorem ChF.step4 (h : ChF B g p w1 l u7 u8 u9 u10 u11 u12 u13 u14 u15 u16 u2 u3 s1 s2 x y w) (hi : l 4 = false) (d2 : l 2 = true) (d3 : l 3 = true) : ChF B g p w1 (upd l 4) u7 u8 u9 u10 (.int .i64 (ix chZ1 x)) u12 u13 u14 u15 u16 u2 u3 s1 s2 x y w where
  c3_0 := by simpa [upd] using h.c3_0
  c3_2 := by simpa [upd] using h.c3_2
  c8_5 := by simpa [upd] using h.c8_5
  c8_7 := by simpa [upd] using h.c8_7
  c4_2 := fun _ => by simpa [upd] using d2
  c9_7 := by simpa [upd] using h.c9_7
  c7_2 := by simpa [upd] using h.c7_2
  c10_4 := fun _ => by simp [upd]
  c11_9 := by simpa [upd] using h.c11_9
  f0 := by simpa [upd] using h.f0
  f1 := by simpa [upd] using h.f1
  f2 := by simpa [upd] using h.f2
  f3 := by simpa [upd] using h.f3
  f4 := fun _ => rfl
  f5 := by simpa [upd] using h.f5
  f6 := by simpa [upd] using h.f6
  f7 := by simpa [upd] using h.f7
  f8 := by simpa [upd] using h.f8
  f9 := by simpa [upd] using h.f9
  f10 := by simpa [upd] using h.f10
  f11 := by simpa [upd] using h.f11
  rdr := by simpa [upd] using h.rdr
  old := h.old
  gl := h.gl
theorem ChF.step5 (h : ChF B g p w1 l u7 u8 u9 u10 u11 u12 u13 u14 u15 u16 u2 u3 s1 s2 x y w) (hi : l 5 = false) : ChF B g p w1 (upd l 5) u7 u8 u9 u10 u11 (.slice (some ⟨w.heap.size, 0, none⟩) 3 3) u13 u14 u15 u16 u2 u3 s1 w.heap.size x y (w.alloc (.cells #[.int .i64 0, .int .i64 1, .int .i64 1000000000] 3)) where
  c3_0 := by simpa [upd] using h.c3_0
  c3_2 := by simpa [upd] using h.c3_2
  c8_5 := fun _ => by simp [upd]
  c8_7 := by simpa [upd] using h.c8_7
  c4_2 := by simpa [upd] using h.c4_2
  c9_7 := by simpa [upd] using h.c9_7
  c7_2 := by simpa [upd] using h.c7_2
  c10_4 := by simpa [upd] using h.c10_4
  c11_9 := by simpa [upd] using h.c11_9
  f0 := fun hl => by have hl : l 0 = true := (by simpa [upd] using hl); obtain ⟨a, b, c⟩ := h.f0 hl; exact ⟨a, blkA b _, c⟩
  f1 := by simpa [upd] using h.f1
  f2 := by simpa [upd] using h.f2
  f3 := by simpa [upd] using h.f3
  f4 := by simpa [upd] using h.f4
  f5 := fun _ => ⟨rfl, heap_alloc_new w _, by have := h.old.size; have := h.gl; omega⟩
  f6 := by simpa [upd] using h.f6
  f7 := by simpa [upd] using h.f7
  f8 := fun hl => by have hl : l 8 = true := (by simpa [upd] using hl); have := h.c8_5 hl; rw [hi] at this; cases this
  f9 := by simpa [upd] using h.f9
  f10 := by simpa [upd] using h.f10
  f11 := by simpa [upd] using h.f11
  rdr := by simpa [upd] using h.rdr.alloc _
  old := h.old.trans (World.grownBy_alloc _ _ _)
  gl := h.gl
theorem ChF.step6 (h : ChF B g p w1 l u7 u8 u9 u10 u11 u12 u13 u14 u15 u16 u2 u3 s1 s2 x y w) (hi : l 6 = false) : ChF B g p w1 (upd l 6) u7 u8 u9 u10 u11 u12 (.pointer (some ⟨g, 0, none⟩)) u14 u15 u16 u2 u3 s1 s2 x y w where
  c3_0 := by simpa [upd] using h.c3_0
  c3_2 := by simpa [upd] using h.c3_2
  c8_5 := by simpa [upd] using h.c8_5
  c8_7 := by simpa [upd] using h.c8_7
  c4_2 := by simpa [upd] using h.c4_2
  c9_7 := by simpa [upd] using h.c9_7
  c7_2 := by simpa [upd] using h.c7_2
  c10_4 := by simpa [upd] using h.c10_4
  c11_9 := by simpa [upd] using h.c11_9
  f0 := by simpa [upd] using h.f0
  f1 := by simpa [upd] using h.f1
  f2 := by simpa [upd] using h.f2
  f3 := by simpa [upd] using h.f3
  f4 := by simpa [upd] using h.f4
  f5 := by simpa [upd] using h.f5
  f6 := fun _ => rfl
  f7 := by simpa [upd] using h.f7
  f8 := by simpa [upd] using h.f8
  f9 := by simpa [upd] using h.f9
  f10 := by simpa [upd] using h.f10
  f11 := by simpa [upd] using h.f11
  rdr := by simpa [upd] using h.rdr
  old := h.old
  gl := h.gl
theorem ChF.step7 (h : ChF B g p w1 l u7 u8 u9 u10 u11 u12 u13 u14 u15 u16 u2 u3 s1 s2 x y w) (hi : l 7 = false) (d2 : l 2 = true) (d6 : l 6 = true) {w' : World} {y2 : Nat} (hy : y2 < 3) (hr : Rdr w' B g (p + 1 + (if l 2 then 1 else 0) + (if l 7 then 1 else 0) + 1)) (hg : w.grownBy w' (some g)) : ChF B g p w1 (upd l 7) u7 u8 u9 u10 u11 u12 u13 (.int .i64 (y2 : Int)) u15 u16 u2 u3 s1 s2 x y2 w' where
  c3_0 := by simpa [upd] using h.c3_0
  c3_2 := by simpa [upd] using h.c3_2
  c8_5 := by simpa [upd] using h.c8_5
  c8_7 := fun _ => by simp [upd]
  c4_2 := by simpa [upd] using h.c4_2
  c9_7 := fun _ => by simp [upd]
  c7_2 := fun _ => by simpa [upd] using d2
  c10_4 := by simpa [upd] using h.c10_4
  c11_9 := by simpa [upd] using h.c11_9
  f0 := fun hl => by have hl : l 0 = true := (by simpa [upd] using hl); obtain ⟨a, b, c⟩ := h.f0 hl; exact ⟨a, blkG b hg c, c⟩
  f1 := by simpa [upd] using h.f1
  f2 := by simpa [upd] using h.f2
  f3 := by simpa [upd] using h.f3
  f4 := by simpa [upd] using h.f4
  f5 := fun hl => by have hl : l 5 = true := (by simpa [upd] using hl); obtain ⟨a, b, c⟩ := h.f5 hl; exact ⟨a, blkG b hg c, c⟩
  f6 := by simpa [upd] using h.f6
  f7 := fun _ => ⟨rfl, hy⟩
  f8 := fun hl => by have hl : l 8 = true := (by simpa [upd] using hl); have := h.c8_7 hl; rw [hi] at this; cases this
  f9 := fun hl => by have hl : l 9 = true := (by simpa [upd] using hl); have := h.c9_7 hl; rw [hi] at this; cases this
  f10 := by simpa [upd] using h.f10
  f11 := fun hl => by have hl : l 11 = true := (by simpa [upd] using hl); have := h.c9_7 (h.c11_9 hl); rw [hi] at this; cases this
  rdr := by have := hr; rw [hi, d2] at this; simpa [upd, d2] using this
  old := h.old.trans hg
  gl := h.gl
theorem ChF.step8 (h : ChF B g p w1 l u7 u8 u9 u10 u11 u12 u13 u14 u15 u16 u2 u3 s1 s2 x y w) (hi : l 8 = false) (d5 : l 5 = true) (d7 : l 7 = true) : ChF B g p w1 (upd l 8) u7 u8 u9 u10 u11 u12 u13 u14 (.pointer (some ⟨s2, y, none⟩)) u16 u2 u3 s1 s2 x y w where
  c3_0 := by simpa [upd] using h.c3_0
  c3_2 := by simpa [upd] using h.c3_2
  c8_5 := fun _ => by simpa [upd] using d5
  c8_7 := fun _ => by simpa [upd] using d7
  c4_2 := by simpa [upd] using h.c4_2
  c9_7 := by simpa [upd] using h.c9_7
  c7_2 := by simpa [upd] using h.c7_2
  c10_4 := by simpa [upd] using h.c10_4
  c11_9 := by simpa [upd] using h.c11_9
  f0 := by simpa [upd] using h.f0
  f1 := by simpa [upd] using h.f1
  f2 := by simpa [upd] using h.f2
  f3 := by simpa [upd] using h.f3
  f4 := by simpa [upd] using h.f4
  f5 := by simpa [upd] using h.f5
  f6 := by simpa [upd] using h.f6
  f7 := by simpa [upd] using h.f7
  f8 := fun _ => rfl
  f9 := by simpa [upd] using h.f9
  f10 := by simpa [upd] using h.f10
  f11 := by simpa [upd] using h.f11
  rdr := by simpa [upd] using h.rdr
  old := h.old
  gl := h.gl
theorem ChF.step9 (h : ChF B g p w1 l u7 u8 u9 u10 u11 u12 u13 u14 u15 u16 u2 u3 s1 s2 x y w) (hi : l 9 = false) (d7 : l 7 = true) (d8 : l 8 = true) : ChF B g p w1 (upd l 9) u7 u8 u9 u10 u11 u12 u13 u14 u15 (.int .i64 (ix chZ2 y)) u2 u3 s1 s2 x y w where
  c3_0 := by simpa [upd] using h.c3_0
  c3_2 := by simpa [upd] using h.c3_2
  c8_5 := by simpa [upd] using h.c8_5
  c8_7 := by simpa [upd] using h.c8_7
  c4_2 := by simpa [upd] using h.c4_2
  c9_7 := fun _ => by simpa [upd] using d7
  c7_2 := by simpa [upd] using h.c7_2
  c10_4 := by simpa [upd] using h.c10_4
  c11_9 := fun _ => by simp [upd]
  f0 := by simpa [upd] using h.f0
  f1 := by simpa [upd] using h.f1
  f2 := by simpa [upd] using h.f2
  f3 := by simpa [upd] using h.f3
  f4 := by simpa [upd] using h.f4
  f5 := by simpa [upd] using h.f5
  f6 := by simpa [upd] using h.f6
  f7 := by simpa [upd] using h.f7
  f8 := by simpa [upd] using h.f8
  f9 := fun _ => rfl
  f10 := by simpa [upd] using h.f10
  f11 := by simpa [upd] using h.f11
  rdr := by simpa [upd] using h.rdr
  old := h.old
  gl := h.gl
theorem ChF.step10 (h : ChF B g p w1 l u7 u8 u9 u10 u11 u12 u13 u14 u15 u16 u2 u3 s1 s2 x y w) (hi : l 10 = false) (d4 : l 4 = true) : ChF B g p w1 (upd l 10) u7 u8 u9 u10 u11 u12 u13 u14 u15 u16 (.int .i64 (ix chZ1 x)) u3 s1 s2 x y w where
  c3_0 := by simpa [upd] using h.c3_0
  c3_2 := by simpa [upd] using h.c3_2
  c8_5 := by simpa [upd] using h.c8_5
  c8_7 := by simpa [upd] using h.c8_7
  c4_2 := by simpa [upd] using h.c4_2
  c9_7 := by simpa [upd] using h.c9_7
  c7_2 := by simpa [upd] using h.c7_2
  c10_4 := fun _ => by simpa [upd] using d4
  c11_9 := by simpa [upd] using h.c11_9
  f0 := by simpa [upd] using h.f0
  f1 := by simpa [upd] using h.f1
  f2 := by simpa [upd] using h.f2
  f3 := by simpa [upd] using h.f3
  f4 := by simpa [upd] using h.f4
  f5 := by simpa [upd] using h.f5
  f6 := by simpa [upd] using h.f6
  f7 := by simpa [upd] using h.f7
  f8 := by simpa [upd] using h.f8
  f9 := by simpa [upd] using h.f9
  f10 := fun _ => rfl
  f11 := by simpa [upd] using h.f11
  rdr := by simpa [upd] using h.rdr
  old := h.old
  gl := h.gl
theorem ChF.step11 (h : ChF B g p w1 l u7 u8 u9 u10 u11 u12 u13 u14 u15 u16 u2 u3 s1 s2 x y w) (hi : l 11 = false) (d9 : l 9 = true) : ChF B g p w1 (upd l 11) u7 u8 u9 u10 u11 u12 u13 u14 u15 u16 u2 (.int .i64 (ix chZ2 y)) s1 s2 x y w where
  c3_0 := by simpa [upd] using h.c3_0
  c3_2 := by simpa [upd] using h.c3_2
  c8_5 := by simpa [upd] using h.c8_5
  c8_7 := by simpa [upd] using h.c8_7
  c4_2 := by simpa [upd] using h.c4_2
  c9_7 := by simpa [upd] using h.c9_7
  c7_2 := by simpa [upd] using h.c7_2
  c10_4 := by simpa [upd] using h.c10_4
  c11_9 := fun _ => by simpa [upd] using d9
  f0 := by simpa [upd] using h.f0
  f1 := by simpa [upd] using h.f1
  f2 := by simpa [upd] using h.f2
  f3 := by simpa [upd] using h.f3
  f4 := by simpa [upd] using h.f4
  f5 := by simpa [upd] using h.f5
  f6 := by simpa [upd] using h.f6
  f7 := by simpa [upd] using h.f7
  f8 := by simpa [upd] using h.f8
  f9 := by simpa [upd] using h.f9
  f10 := by simpa [upd] using h.f10
  f11 := fun _ => rfl
  rdr := by simpa [upd] using h.rdr
  old := h.old
  gl := h.gl
end

end Go.Proofs.Ytomojiipgabhfaa
