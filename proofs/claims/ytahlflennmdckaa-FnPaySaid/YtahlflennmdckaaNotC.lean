/- The walk of the program's notchCounts. -/
import Derived.Test.YtahlflennmdckaaNotW
import Derived.Test.YtahlflennmdckaaBase
import Derived.Outline
namespace Go.Proofs.Ytahlflennmdckaa
open Go.RowKit Go.PlainAid
set_option linter.unusedVariables false
set_option linter.unusedSimpArgs false

/-- block g is just the cells cs of element type t. -/
def Blk (w : World) (g : Nat) (t : TypeId) (cs : Array Value) : Prop := w.heap[g]? = some (.cells cs t (0, 0))
section
variable {w w' : World} {g : Nat} {t : TypeId} {cs : Array Value}
theorem Blk.lt (h : Blk w g t cs) : g < w.heap.size := by
  rcases Nat.lt_or_ge g w.heap.size with hlt | hge
  · exact hlt
  · unfold Blk at h; rw [Array.getElem?_eq_none hge] at h; cases h
theorem Blk.cell (h : Blk w g t cs) (i : Nat) : w.cell? ⟨g, i, none⟩ = cs[i]? := cell_of_row w g i cs t (0, 0) h
theorem Blk.frozen (h : Blk w g t cs) (i : Nat) : w.frozen? ⟨g, i, none⟩ = false := by
  unfold Blk at h
  simp [World.frozen?, h]
theorem Blk.new (w : World) (t : TypeId) (cs : Array Value) : Blk (w.alloc (.cells cs t)) w.heap.size t cs := heap_alloc_new w _
theorem Blk.drewN (h : Blk w g t cs) (n : Nat) : Blk (w.drewN n) g t cs := h
theorem Blk.alloc (h : Blk w g t cs) (o : Obj) : Blk (w.alloc o) g t cs := (Below.heap_alloc w o g h.lt).trans h
theorem Blk.set_ (h : Blk w g t cs) (i : Nat) (u : Value) : Blk (w.setCell ⟨g, i, none⟩ u) g t (cs.setIfInBounds i u) := by
  unfold Blk at h ⊢
  simp [World.setCell, Array.getElem?_modify, h]
theorem Blk.far (h : Blk w g t cs) {p : Addr} (hp : g ≠ p.block) (u : Value) : Blk (w.setCell p u) g t cs := (Below.heap_setCell w p u g hp).trans h
theorem Blk.below {B : Nat} (h : Blk w g t cs) (hb : Below B w w') (hg : g < B) : Blk w' g t cs := (hb.block g hg).trans h
theorem Blk.grown {row : Option Nat} (h : Blk w g t cs) (hb : w.grownBy w' row) (hg : some g ≠ row) : Blk w' g t cs := (hb.block g h.lt hg).trans h
end

theorem sets4 {w : World} {g : Nat} {t : TypeId} {x0 x1 x2 x3 : Value} (h : Blk w g t #[x0, x1, x2, x3]) (a b c d : Value) :
    (w.setCell ⟨g, 0, none⟩ a).cell? ⟨g, 0, none⟩ = some a ∧ ((w.setCell ⟨g, 0, none⟩ a).setCell ⟨g, 1, none⟩ b).cell? ⟨g, 1, none⟩ = some b ∧
    (((w.setCell ⟨g, 0, none⟩ a).setCell ⟨g, 1, none⟩ b).setCell ⟨g, 2, none⟩ c).cell? ⟨g, 2, none⟩ = some c ∧
    ((((w.setCell ⟨g, 0, none⟩ a).setCell ⟨g, 1, none⟩ b).setCell ⟨g, 2, none⟩ c).setCell ⟨g, 3, none⟩ d).cell? ⟨g, 3, none⟩ = some d ∧
    Blk ((((w.setCell ⟨g, 0, none⟩ a).setCell ⟨g, 1, none⟩ b).setCell ⟨g, 2, none⟩ c).setCell ⟨g, 3, none⟩ d) g t #[a, b, c, d] := by
  have h0 := h.set_ 0 a
  have h1 := h0.set_ 1 b
  have h2 := h1.set_ 2 c
  have h3 := h2.set_ 3 d
  exact ⟨h0.cell 0, h1.cell 1, h2.cell 2, h3.cell 3, h3⟩

/-- Four counts as cells. -/
def nsC (s : NS) : Array Value := #[.int .i64 (s.get 0), .int .i64 (s.get 1), .int .i64 (s.get 2), .int .i64 (s.get 3)]
theorem nsC_inc (s : NS) {i : Nat} (hi : i < 4) : (nsC s).setIfInBounds i (.int .i64 ((s.get i : Nat) + 1 : Int)) = nsC (s.inc i) := by
  have : i = 0 ∨ i = 1 ∨ i = 2 ∨ i = 3 := by omega
  rcases this with e | e | e | e <;> subst e <;> rfl
theorem nsC_at (s : NS) {i : Nat} (hi : i < 4) : (nsC s)[i]? = some (.int .i64 (s.get i)) := by
  have : i = 0 ∨ i = 1 ∨ i = 2 ∨ i = 3 := by omega
  rcases this with e | e | e | e <;> subst e <;> rfl

/-- What notchCounts tells. -/
def CntPost (s : ByteArray) (w : World) (e : Ending) (w' : World) : Prop :=
  ∃ st : NS, ∃ ok : Bool, e = .returned (.tuple #[.agg #[.int .i64 (st.get 0), .int .i64 (st.get 1), .int .i64 (st.get 2), .int .i64 (st.get 3)], .bool ok]) ∧ (ok = true → nrun s.data.toList ns0 = some st) ∧ (ok = false → nrun s.data.toList ns0 = none) ∧ Below w.heap.size w w'

theorem idx_ltr {i : Nat} (hi : i < 4) : Lib.indexByte [77, 67, 88, 73] (ltr i) = (i : Int) := by
  have : i = 0 ∨ i = 1 ∨ i = 2 ∨ i = 3 := by omega
  rcases this with e | e | e | e <;> subst e <;> decide
theorem idx_other {x : UInt8} (h : ∀ i, i < 4 → x ≠ ltr i) : Lib.indexByte [77, 67, 88, 73] x = -1 := by
  have h0 := h 0 (by omega)
  have h1 := h 1 (by omega)
  have h2 := h 2 (by omega)
  have h3 := h 3 (by omega)
  simp [ltr] at h0 h1 h2 h3
  simp [Lib.indexByte, Ne.symm h0, Ne.symm h1, Ne.symm h2, Ne.symm h3]
theorem take_snoc (s : ByteArray) (k : Nat) (h : k < s.size) : s.data.toList.take (k + 1) = s.data.toList.take k ++ [s[k]] := by
  rw [List.take_succ_eq_append_getElem (by simpa using h)]; rfl

set_option maxHeartbeats 1000000 in
theorem notchCounts (s : ByteArray) (w : World) (hs : s.size ≤ 4611686018427387) :
    Calls Try.prog 54 #[.string s] w (CntPost s w) := by
  have hb := get_bt s
  go_enter Try.func54, Try.ntmps54
  go_wp2
  go_loopw [5, 6, 7] (fun l i t wr => ∃ (k : Nat) (st : NS) , k ≤ s.size ∧ i = .int .i64 k ∧ l = .int .i64 (st.last : Nat) ∧ nrun (s.data.toList.take k) ns0 = some st ∧
    Blk wr w.heap.size 63 (nsC ns0) ∧ Blk wr (w.heap.size + 1) 63 (nsC st) ∧ Below w.heap.size w wr) (fun _ i _ _ => s.size - (intOf i).toNat)
  case atStart =>
    refine ⟨0, ns0, Nat.zero_le _, rfl, rfl, rfl, (Blk.new w _ _).alloc _, ?_, ((Below.refl _ _).alloc (Nat.le_refl _) _).alloc (by simp) _⟩
    have := Blk.new (w.alloc (.cells (nsC ns0) 63)) 63 (nsC ns0)
    have e : (w.alloc (.cells (nsC ns0) 63)).heap.size = w.heap.size + 1 := by simp
    rw [e] at this
    exact this
  case round =>
    obtain ⟨k, st, hk, rfl, rfl, hst0, hB0, hB1, hbel⟩ := hrel
    have hst := Lib.hid hst0
    clear hst0
    have d0 : wr.cell? ⟨w.heap.size, 0, none⟩ = some (.int .i64 0) := hB0.cell 0
    have d1 : wr.cell? ⟨w.heap.size, 1, none⟩ = some (.int .i64 0) := hB0.cell 1
    have d2 : wr.cell? ⟨w.heap.size, 2, none⟩ = some (.int .i64 0) := hB0.cell 2
    have d3 : wr.cell? ⟨w.heap.size, 3, none⟩ = some (.int .i64 0) := hB0.cell 3
    have f0 : wr.frozen? ⟨w.heap.size, 0, none⟩ = false := hB0.frozen 0
    have f1 : wr.frozen? ⟨w.heap.size, 1, none⟩ = false := hB0.frozen 1
    have f2 : wr.frozen? ⟨w.heap.size, 2, none⟩ = false := hB0.frozen 2
    have f3 : wr.frozen? ⟨w.heap.size, 3, none⟩ = false := hB0.frozen 3
    have c0 : wr.cell? ⟨w.heap.size + 1, 0, none⟩ = some (.int .i64 (st.get 0)) := hB1.cell 0
    have c1 : wr.cell? ⟨w.heap.size + 1, 1, none⟩ = some (.int .i64 (st.get 1)) := hB1.cell 1
    have c2 : wr.cell? ⟨w.heap.size + 1, 2, none⟩ = some (.int .i64 (st.get 2)) := hB1.cell 2
    have c3 : wr.cell? ⟨w.heap.size + 1, 3, none⟩ = some (.int .i64 (st.get 3)) := hB1.cell 3
    have S4 := Lib.hid (sets4 (t := 63) hB0 (.int .i64 (st.get 0)) (.int .i64 (st.get 1)) (.int .i64 (st.get 2)) (.int .i64 (st.get 3)))
    have s0 := hB0.lt
    have s1 := hB1.lt
    by_cases hlt : k < s.size
    · have hts := Lib.hid (take_snoc s k hlt)
      have hx : bt s k = (s[k].toNat : Int) := (hb k hlt).symm
      have hxu : (bt s k).toNat.toUInt8 = s[k] := by rw [hx]; simp
      have IB : ∀ w0 : World, Calls Try.prog 80 #[.string ⟨#[77, 67, 88, 73]⟩, .int .u8 (bt s k)] w0 fun e w' => e = .returned (.int .i64 (Lib.indexByte [77, 67, 88, 73] s[k])) ∧ w0 = w' := fun w0 =>
        (Try.strings_IndexByte ⟨#[77, 67, 88, 73]⟩ (bt s k) w0).mono fun e w' h => ⟨by rw [h.1, hxu], h.2.symm⟩
      have HX := Lib.hid hx
      clear hx hxu
      have hll := last_lt st
      rcases ltr_or s[k] with ⟨i, hi, e⟩ | hno
      · rw [e, idx_ltr hi] at IB
        have hc : wr.cell? ⟨w.heap.size + 1, i, none⟩ = some (.int .i64 (st.get i)) := (hB1.cell i).trans (nsC_at st hi)
        have hf : wr.frozen? ⟨w.heap.size + 1, i, none⟩ = false := hB1.frozen i
        have hstep := Lib.hid (nstep_ltr st hi)
        by_cases h1 : i < st.last
        · have HN := Lib.hid (nrun_take_none s.data.toList (k + 1) ns0 (by rw [hts.out, nrun_snoc, hst.out, e]; show nstep st (ltr i) = none; rw [hstep.out, if_neg (by omega)]))
          clear e
          go_wp2_with (go_at_call 80; refine (IB _).mono ?_; rintro e w' ⟨rfl, rfl⟩)
          refine bodyPost_ret (v := .tuple #[.agg (nsC st), .bool false]) (by simp [results, Try.results54, go_sem, S4.out.1, S4.out.2.1, S4.out.2.2.1, S4.out.2.2.2.1]; rfl) rfl ⟨st, false, rfl, by simp, fun _ => HN.out, ?_⟩
          exact (((hbel.setCell (by simp) _).setCell (by simp) _).setCell (by simp) _).setCell (by simp) _
        · by_cases h2 : st.get i = 9
          · have HN := Lib.hid (nrun_take_none s.data.toList (k + 1) ns0 (by rw [hts.out, nrun_snoc, hst.out, e]; show nstep st (ltr i) = none; rw [hstep.out, if_neg (by omega)]))
            clear e
            have h9 : ((st.get i : Nat) == 9) = true := by simp [h2]
            have h9' : ((st.get i : Int) == 9) = true := by simp; omega
            clear h2
            go_wp2_with (go_at_call 80; refine (IB _).mono ?_; rintro e w' ⟨rfl, rfl⟩)
            refine bodyPost_ret (v := .tuple #[.agg (nsC st), .bool false]) (by simp [results, Try.results54, go_sem, S4.out.1, S4.out.2.1, S4.out.2.2.1, S4.out.2.2.2.1]; rfl) rfl ⟨st, false, rfl, by simp, fun _ => HN.out, ?_⟩
            exact (((hbel.setCell (by simp) _).setCell (by simp) _).setCell (by simp) _).setCell (by simp) _
          · have hok := (nrun0 hst.out).1
            have hg9 : st.get i ≤ 8 := by
              have : st.get i ≤ 9 := by
                obtain ⟨o1, o2, o3, o4⟩ := hok
                unfold NS.get; split <;> (try split) <;> (try split) <;> omega
              omega
            have HN := Lib.hid (show nrun (s.data.toList.take (k + 1)) ns0 = some (st.inc i) by rw [hts.out, nrun_snoc, hst.out, e]; show nstep st (ltr i) = _; rw [hstep.out, if_pos ⟨by omega, by omega⟩])
            have HL := Lib.hid (last_inc st hi (by omega))
            have HI := Lib.hid (nsC_inc st hi)
            clear e hok
            have h9' : ((st.get i : Int) == 9) = false := by simp; omega
            clear h2
            go_wp2_with (go_at_call 80; refine (IB _).mono ?_; rintro e w' ⟨rfl, rfl⟩)
            go_roundw
            case rel =>
              refine ⟨k + 1, st.inc i, by omega, by go_num, by rw [HL.out], HN.out, hB0.far (by simp) _, ?_, hbel.setCell (by simp) _⟩
              rw [← HI.out]
              exact hB1.set_ i _
            case measure => simp [intOf] <;> omega
      · rw [idx_other hno] at IB
        have HN := Lib.hid (nrun_take_none s.data.toList (k + 1) ns0 (by rw [hts.out, nrun_snoc, hst.out]; show nstep st s[k] = none; exact nstep_other st hno))
        clear hno
        go_wp2_with (go_at_call 80; refine (IB _).mono ?_; rintro e w' ⟨rfl, rfl⟩)
        refine bodyPost_ret (v := .tuple #[.agg (nsC st), .bool false]) (by simp [results, Try.results54, go_sem, S4.out.1, S4.out.2.1, S4.out.2.2.1, S4.out.2.2.2.1]; rfl) rfl ⟨st, false, rfl, by simp, fun _ => HN.out, ?_⟩
        exact (((hbel.setCell (by simp) _).setCell (by simp) _).setCell (by simp) _).setCell (by simp) _
    · have HN := Lib.hid (show nrun s.data.toList ns0 = some st by have := hst.out; rwa [List.take_of_length_le (by simp; omega)] at this)
      go_wp2
      refine bodyPost_ret (v := .tuple #[.agg (nsC st), .bool true]) (by simp [results, Try.results54, go_sem, S4.out.1, S4.out.2.1, S4.out.2.2.1, S4.out.2.2.2.1]; rfl) rfl ⟨st, true, rfl, fun _ => HN.out, by simp, ?_⟩
      exact (((hbel.setCell (by simp) _).setCell (by simp) _).setCell (by simp) _).setCell (by simp) _

end Go.Proofs.Ytahlflennmdckaa
