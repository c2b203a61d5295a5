/- Plain: what the laws of notches say. -/
import Derived.Test.YtahlflennmdckaaNotJ
namespace Go.Proofs.Ytahlflennmdckaa
open Go.RowKit Go.PlainAid
set_option linter.unusedVariables false
set_option linter.unusedSimpArgs false

theorem nv_some {s : ByteArray} (h : nvB s = true) : ∃ st, nrun s.data.toList ns0 = some st := by
  unfold nvB at h; exact Option.isSome_iff_exists.1 h
/-- Notches are told by their worth. -/
theorem no_wo {s : ByteArray} (h : nvB s = true) : noR (wo s.data.toList) = s ∧ noB (wo s.data.toList) = true := by
  obtain ⟨st, hst⟩ := nv_some h
  obtain ⟨h1, h2, h3, h4⟩ := nrun0 hst
  have hw := wo_some hst
  have hl := nworth_le h1
  have hb : noB (wo s.data.toList) = true := by rw [hw]; unfold noB; simp; omega
  refine ⟨?_, hb⟩
  rw [noR_yes hb, hw]
  show ntx (nworth st) = s
  rw [ntx_inc h1]
  exact (Txt.lit _).eq h2
theorem wo_ntx {n : Nat} (h : n ≤ 9999) : wo (ntx n).data.toList = n ∧ nvB (ntx n) = true := by
  have hr : nrun (ntx n).data.toList ns0 = some (nsOf n) := by
    show nrun (ncan (nsOf n)) ns0 = _
    rw [nrun_ncan, if_pos (nsOf_ok h)]
  refine ⟨by rw [wo_some hr, nsOf_worth], by unfold nvB; rw [hr]; rfl⟩
theorem wo_no_ {n : Int} (h : noB n = true) : wo (noR n).data.toList = n ∧ nvB (noR n) = true := by
  rw [noR_yes h]
  unfold noB at h
  simp at h
  have := wo_ntx (n := n.toNat) (by omega)
  exact ⟨by rw [this.1]; omega, this.2⟩

/-- A state that is lower, letter by letter. -/
def NS.le (s t : NS) : Prop := s.a ≤ t.a ∧ s.b ≤ t.b ∧ s.c ≤ t.c ∧ s.d ≤ t.d
theorem step_le {s t u : NS} {x : UInt8} (h : s.le t) (hx : nstep t x = some u) : ∃ v, nstep s x = some v ∧ v.le u := by
  obtain ⟨a, b, c, d⟩ := s
  obtain ⟨a', b', c', d'⟩ := t
  obtain ⟨h1, h2, h3, h4⟩ := h
  simp only at h1 h2 h3 h4
  unfold nstep at hx ⊢
  simp only at hx ⊢
  split at hx
  · rename_i hx1
    rw [if_pos hx1]
    split at hx
    · rw [if_pos (by omega)]; obtain rfl := Option.some.inj hx; exact ⟨_, rfl, by simp only [NS.le]; omega⟩
    · cases hx
  · rename_i hx1
    rw [if_neg hx1]
    split at hx
    · rename_i hx2
      rw [if_pos hx2]
      split at hx
      · rw [if_pos (by omega)]; obtain rfl := Option.some.inj hx; exact ⟨_, rfl, by simp only [NS.le]; omega⟩
      · cases hx
    · rename_i hx2
      rw [if_neg hx2]
      split at hx
      · rename_i hx3
        rw [if_pos hx3]
        split at hx
        · rw [if_pos (by omega)]; obtain rfl := Option.some.inj hx; exact ⟨_, rfl, by simp only [NS.le]; omega⟩
        · cases hx
      · rename_i hx3
        rw [if_neg hx3]
        split at hx
        · rename_i hx4
          rw [if_pos hx4]
          split at hx
          · rw [if_pos (by omega)]; obtain rfl := Option.some.inj hx; exact ⟨_, rfl, by simp only [NS.le]; omega⟩
          · cases hx
        · cases hx
theorem run_le : ∀ (l : List UInt8) (s t u : NS), s.le t → nrun l t = some u → ∃ v, nrun l s = some v
  | [], s, t, u, _, _ => ⟨s, rfl⟩
  | x :: l, s, t, u, h, hx => by
    simp only [nrun] at hx ⊢
    cases e : nstep t x with
    | none => rw [e] at hx; cases hx
    | some t' =>
      rw [e] at hx
      obtain ⟨v, h1, h2⟩ := step_le h e
      rw [h1]
      exact run_le l v t' u h2 hx
/-- The two parts of notches are notches; their worths add up. -/
theorem wo_split {s : ByteArray} (h : nvB s = true) (k : Nat) (hk : k ≤ s.size) :
    wo (s.extract 0 k).data.toList + wo (s.extract k s.size).data.toList = wo s.data.toList ∧ 0 ≤ wo (s.extract 0 k).data.toList ∧ wo (s.extract 0 k).data.toList ≤ 9999 ∧ 0 ≤ wo (s.extract k s.size).data.toList ∧ wo (s.extract k s.size).data.toList ≤ 9999 := by
  obtain ⟨st, hst⟩ := nv_some h
  have e1 : (s.extract 0 k).data.toList = s.data.toList.take k := by simp [ByteArray.data_extract]
  have e2 : (s.extract k s.size).data.toList = s.data.toList.drop k := by simp [ByteArray.data_extract, List.take_of_length_le]
  have hsp : s.data.toList = s.data.toList.take k ++ s.data.toList.drop k := (List.take_append_drop k _).symm
  have hst2 := hst
  rw [hsp, nrun_append] at hst2
  cases h1 : nrun (s.data.toList.take k) ns0 with
  | none => rw [h1] at hst2; cases hst2
  | some t1 =>
    rw [h1] at hst2
    obtain ⟨t2, h2⟩ := run_le _ ns0 t1 st (by simp [NS.le, ns0]) hst2
    have a1 := nrun0 h1
    have a2 := nrun0 h2
    have a3 := nrun0 hst
    have l1 := nworth_le a1.1
    have l2 := nworth_le a2.1
    rw [e1, e2, wo_some hst]
    have w1 : wo (s.data.toList.take k) = nworth t1 := by unfold wo; rw [h1]
    have w2 : wo (s.data.toList.drop k) = nworth t2 := by unfold wo; rw [h2]
    rw [w1, w2]
    have : lsum s.data.toList = lsum (s.data.toList.take k) + lsum (s.data.toList.drop k) := by rw [← lsum_append, ← hsp]
    have b1 := a1.2.2.1
    have b2 := a2.2.2.1
    have b3 := a3.2.2.1
    omega

theorem jo_comm (a b : ByteArray) : joR b a = joR a b ∧ joB b a = joB a b := by
  unfold joR joB
  rw [Int.add_comm, Bool.and_comm (nvB b)]
  exact ⟨rfl, rfl⟩
theorem carry {xa xb xc xd ya yb yc yd za zb zc zd : Nat} (e : 1000 * xa + 100 * xb + 10 * xc + xd + (1000 * ya + 100 * yb + 10 * yc + yd) = 1000 * za + 100 * zb + 10 * zc + zd)
  (hxb : xb ≤ 9) (hxc : xc ≤ 9) (hxd : xd ≤ 9) (hyb : yb ≤ 9) (hyc : yc ≤ 9) (hyd : yd ≤ 9) (hzb : zb ≤ 9) (hzc : zc ≤ 9) (hzd : zd ≤ 9) :
  za + zb + zc + zd ≤ xa + xb + xc + xd + (ya + yb + yc + yd) ∧ (xa + xb + xc + xd + (ya + yb + yc + yd) - (za + zb + zc + zd)) % 9 = 0 := by
  obtain ⟨k, hk⟩ : ∃ k, xd + yd = zd + 10 * k := by
    refine ⟨(xd + yd - zd) / 10, ?_⟩
    clear hxb hxc hyb hyc hzb hzc
    omega
  have e1 : 100 * xa + 10 * xb + xc + (100 * ya + 10 * yb + yc) + k = 100 * za + 10 * zb + zc := by clear hxb hxc hyb hyc hzb hzc; omega
  obtain ⟨j, hj⟩ : ∃ j, xc + yc + k = zc + 10 * j := by
    clear e
    refine ⟨(xc + yc + k - zc) / 10, ?_⟩
    clear hxb hyb hzb
    omega
  have e2 : 10 * xa + xb + (10 * ya + yb) + j = 10 * za + zb := by clear hxb hxc hyb hyc hzb hzc e; omega
  obtain ⟨i, hi⟩ : ∃ i, xb + yb + j = zb + 10 * i := by
    clear e e1
    refine ⟨(xb + yb + j - zb) / 10, ?_⟩
    omega
  have e3 : xa + ya + i = za := by clear e e1; omega
  clear e e1 e2 hxb hxc hxd hyb hyc hyd hzb hzc hzd
  omega
theorem nsOf_len {m n : Nat} (hm : m ≤ 9999) (hn : n ≤ 9999) (h : m + n ≤ 9999) : nlen (nsOf (m + n)) ≤ nlen (nsOf m) + nlen (nsOf n) ∧ (nlen (nsOf m) + nlen (nsOf n) - nlen (nsOf (m + n))) % 9 = 0 := by
  have e1 := nsOf_worth m
  have e2 := nsOf_worth n
  have e3 := nsOf_worth (m + n)
  obtain ⟨a1, b1, c1, d1⟩ := nsOf_ok hm
  obtain ⟨a2, b2, c2, d2⟩ := nsOf_ok hn
  obtain ⟨a3, b3, c3, d3⟩ := nsOf_ok h
  generalize nsOf m = x at *
  generalize nsOf n = y at *
  generalize nsOf (m + n) = z at *
  obtain ⟨xa, xb, xc, xd⟩ := x
  obtain ⟨ya, yb, yc, yd⟩ := y
  obtain ⟨za, zb, zc, zd⟩ := z
  simp only [nworth, nlen] at *
  exact carry (by omega) b1 c1 d1 b2 c2 d2 b3 c3 d3
/-- What joined notches are. -/
theorem jo_law {a b : ByteArray} (h : joB a b = true) : nvB a = true ∧ nvB b = true ∧ wo (joR a b).data.toList = wo a.data.toList + wo b.data.toList ∧ nvB (joR a b) = true ∧ (joR a b).size ≤ a.size + b.size ∧ (a.size + b.size - (joR a b).size) % 9 = 0 := by
  have hh := h
  unfold joB at hh
  simp at hh
  obtain ⟨⟨va, vb⟩, hn⟩ := hh
  have hj := (jo_yes va vb).1
  have hw := wo_no_ hn
  obtain ⟨sa, ha⟩ := nv_some va
  obtain ⟨sb, hb⟩ := nv_some vb
  have a1 := nrun0 ha
  have b1 := nrun0 hb
  have wa := wo_some ha
  have wb := wo_some hb
  have hn' := hn
  unfold noB at hn'
  simp at hn'
  refine ⟨va, vb, by rw [hj]; exact hw.1, by rw [hj]; exact hw.2, ?_⟩
  have hsz : (joR a b).size = nlen (nsOf (nworth sa + nworth sb)) := by
    rw [hj, noR_yes hn, wa, wb, ← size_list]
    show (ncan (nsOf ((nworth sa : Int) + nworth sb).toNat)).length = _
    rw [ncan_len]
    congr 2
  have e := nsOf_len (m := nworth sa) (n := nworth sb) (nworth_le a1.1) (nworth_le b1.1) (by rw [wa, wb] at hn'; omega)
  rw [nsOf_nworth a1.1, nsOf_nworth b1.1] at e
  have e1 := a1.2.2.2
  have e2 := b1.2.2.2
  rw [size_list] at e1 e2
  rw [hsz, e1, e2]
  exact e
/-- What cut notches are. -/
theorem cu_law {s l : ByteArray} (h : cuB s l = true) : joR s l = cuR s l ∧ joB s l = true ∧ (cuR s l).size = s.size + 1 ∧ nvB (cuR s l) = true ∧ ∃ i, i < 4 ∧ wo (cuR s l).data.toList = wo s.data.toList + p10 (3 - (i : Nat)) := by
  unfold cuB at h
  obtain ⟨t, ht⟩ := Option.isSome_iff_exists.1 h
  have ht2 := ht
  unfold cuO at ht
  cases hst : nrun s.data.toList ns0 with
  | none => rw [hst] at ht; cases ht
  | some st =>
    rw [hst] at ht
    simp only at ht
    split at ht
    · rename_i x hx
      split at ht
      · rename_i hc
        obtain rfl := Option.some.inj ht
        have hok := (nrun0 hst).1
        have hi := hc.1
        have hok' := (get_inc hi hok).2 hc.2
        have hR := (cu_some ht2).1
        have hxl : x = ltr (lix x) := by
          rcases ltr_or x with ⟨i, hi', rfl⟩ | hno
          · rw [lix_ltr hi']
          · have := lix_other hno; omega
        have hl : nrun l.data.toList ns0 = some (ns0.inc (lix x)) := by
          rw [hx, hxl]
          show nrun [ltr (lix x)] ns0 = _
          rw [lix_ltr hi]
          simp only [nrun]
          rw [nstep_ltr ns0 hi, if_pos ⟨Nat.zero_le _, by unfold NS.get ns0; simp⟩]
        have hwi := worth_inc st hi
        have hw0 := worth_inc ns0 hi
        have z0 : (nworth ns0 : Int) = 0 := rfl
        have hwl := nworth_le hok'
        have ws := wo_some hst
        have wl := wo_some hl
        have va : nvB s = true := by unfold nvB; rw [hst]; rfl
        have vb : nvB l = true := by unfold nvB; rw [hl]; rfl
        have hsum : wo s.data.toList + wo l.data.toList = nworth (st.inc (lix x)) := by rw [ws, wl]; omega
        have hnb : noB (wo s.data.toList + wo l.data.toList) = true := by rw [hsum]; unfold noB; simp; omega
        have hj := jo_yes va vb
        have hr : nrun (cuR s l).data.toList ns0 = some (st.inc (lix x)) := by
          rw [hR]
          show nrun (ncan (st.inc (lix x))) ns0 = _
          rw [nrun_ncan, if_pos hok']
        refine ⟨?_, by rw [hj.2, hnb], ?_, by unfold nvB; rw [hr]; rfl, lix x, hi, ?_⟩
        · rw [hj.1, noR_yes hnb, hsum, hR]
          exact ntx_inc hok'
        · have e1 := (nrun0 hst).2.2.2
          have e2 := (nrun0 hr).2.2.2
          rw [size_list] at e1 e2
          rw [e1, e2]
          obtain ⟨a, b, c, d⟩ := st
          have : lix x = 0 ∨ lix x = 1 ∨ lix x = 2 ∨ lix x = 3 := by omega
          rcases this with e | e | e | e <;> rw [e] <;> simp [NS.inc, nlen] <;> omega
        · rw [wo_some hr, ws, hwi]
      · cases ht
    · cases ht

end Go.Proofs.Ytahlflennmdckaa
