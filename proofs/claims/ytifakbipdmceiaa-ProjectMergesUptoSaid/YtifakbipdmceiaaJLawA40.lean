import Derived.Test.YtifakbipdmceiaaJLawA39
import Derived.Test.YtifakbipdmceiaaJLawA14
import Derived.Test.YtifakbipdmceiaaJLawA27
import Derived.Test.YtifakbipdmceiaaJLawA9
import Derived.Test.YtifakbipdmceiaaJLawA15
import Derived.Test.YtifakbipdmceiaaJLawA22
section
set_option linter.unusedVariables false
set_option linter.unusedSimpArgs false
namespace Go.Proofs.Ytifakbipdmceiaa
open Go.RowKit

set_option maxHeartbeats 4000000 in
set_option maxRecDepth 100000 in
theorem event_ref (x : Ev) (A : Option Addr) (c B0 N0 : Nat) (w : World) (hx0 : EOk B0 N0 w x A c) (hN : N0 ≤ w.heap.size) :
    Calls Try.prog 74 #[.agg #[.int .i64 x.k, .string x.p, .string x.o, .string x.q, .int .i64 x.v.kind, .int .i64 x.v.int, .int .i64 x.v.im, .string x.v.text, .slice A x.v.items.length c, .int .i64 x.a, .int .i64 x.b, .int .i64 x.c]] w fun e w' => ∃ A' c', e = .returned (.agg #[.int .i64 x.k, .string x.p, .string x.o, .string x.q, .int .i64 x.v.kind, .int .i64 x.v.int, .int .i64 x.v.im, .string x.v.text, .slice A' x.v.items.length c', .int .i64 x.a, .int .i64 x.b, .int .i64 x.c]) ∧ (EOk B0 N0 w' x A' c' ∨ EOk w.heap.size w'.heap.size w' x A' c') ∧ Below w.heap.size w w' := by
  have hx := Q.mk hx0
  clear hx0
  obtain ⟨W0, hW0, b0, b1, BB, Z⟩ := boxes2 w (.cells #[.int .i64 x.k, .string x.p, .string x.o, .string x.q, .int .i64 x.v.kind, .int .i64 x.v.int, .int .i64 x.v.im, .string x.v.text, .slice A x.v.items.length c, .int .i64 x.a, .int .i64 x.b, .int .i64 x.c] 37) (.cells #[.int .i64 0, .string ⟨#[]⟩, .string ⟨#[]⟩, .string ⟨#[]⟩, .int .i64 0, .int .i64 0, .int .i64 0, .string ⟨#[]⟩, .slice none 0 0, .int .i64 0, .int .i64 0, .int .i64 0] 37)
  replace hW0 := Q.mk hW0
  go_enter Try.func74, Try.ntmps74
  go_wp2_with (go_at_call 63; rw [← hW0.out]; clear hW0; refine (Copy_ref x.v A c B0 N0 _ (hx.out.v.below BB hN) (by omega)).mono ?_; rintro e w2 ⟨A2, c2, rfl, hv2, hb2⟩; replace hv2 := Q.mk hv2; have z2 := hb2.size; obtain ⟨p0, p1, p2, p3, p4, p5, p6, p7, p8, p9, p10, p11, pf⟩ := box12 (hb2.box b0.out (by omega)); obtain ⟨q0, q1, q2, q3, q4, q5, q6, q7, q8, q9, q10, q11, qf⟩ := box12 (hb2.box b1.out (by omega)))
  have L0 : w.heap.size < w2.heap.size := by omega
  have L1 : w.heap.size + 1 < w2.heap.size := by omega
  have L2 : w.heap.size ≤ w.heap.size + 1 := by omega
  have L3 : w.heap.size < W0.heap.size := by omega
  have L4 : w.heap.size + 1 < W0.heap.size := by omega
  have BW : Below w.heap.size w w2 := BB.trans (hb2.mono (by omega))
  refine bodyPost_ret (results_cell_row rfl _ _ (w.heap.size + 1) 37 #[.int .i64 x.k, .string x.p, .string x.o, .string x.q, .int .i64 x.v.kind, .int .i64 x.v.int, .int .i64 x.v.im, .string x.v.text, .slice A2 x.v.items.length c2, .int .i64 x.a, .int .i64 x.b, .int .i64 x.c] (0, 0) _ rfl
    (box_set12 (box_far5 (hb2.box b1.out (by omega)) (Nat.succ_ne_self _))) Try.underlying37 rfl (by kernel_rfl)) rfl ⟨A2, c2, rfl, ?_, ?_⟩
  · rcases hv2.out with hv | hv
    · exact .inl ⟨(hv.set5 (.inr hN)).set12 (.inr (Nat.le_succ_of_le hN)), hx.out.p, hx.out.o, hx.out.q⟩
    · refine .inr ⟨?_, hx.out.p, hx.out.o, hx.out.q⟩
      exact ((hv.set5 (.inl L3)).set12 (.inl L4)).mono (by omega) (by simp only [size_set]; omega)
  · exact (BW.set5 (Nat.le_refl _)).set12 L2
end Go.Proofs.Ytifakbipdmceiaa
end
section
set_option linter.unusedVariables false
set_option linter.unusedSimpArgs false
namespace Go.Proofs.Ytifakbipdmceiaa
open Go.RowKit

theorem selP_on (P : Nat → Bool) (l : List Ev) (j : Nat) (hj : j < l.length) {e : Ev} (he : l[j] = e) (hp : P j = true) : selP P l (j + 1) = selP P l j ++ [e] := by rw [selP]; simp [hj, he, hp]
theorem selP_off (P : Nat → Bool) (l : List Ev) (j : Nat) (hp : P j = false) : selP P l (j + 1) = selP P l j := by
  rw [selP]; split
  · rfl
  · simp [hp]
set_option maxHeartbeats 2000000 in
set_option maxRecDepth 100000 in
theorem Proc_ref (l : List Ev) (A : Option Addr) (c B0 N0 : Nat) (name : ByteArray) (w : World) (hr0 : Row eEl B0 N0 w A l) (hN : N0 ≤ w.heap.size) (hc : l.length ≤ c) :
    Calls Try.prog 25 #[.slice A l.length c, .string name] w fun e w' => ∃ v, e = .returned v ∧ OwnR eEl 37 N0 w.heap.size w'.heap.size w' v (keepP (procB l name) l) ∧ Below w.heap.size w w' := by
  have hlen := hr0.lenE
  have hr := Q.mk hr0
  clear hr0
  go_enter Try.func25, Try.ntmps25
  go_wp2_with fail
  go_loopw [5, 6] (fun u i wr => ∃ j : Nat, j ≤ l.length ∧ i = .int .i64 j ∧ Q (OwnR eEl 37 N0 w.heap.size wr.heap.size wr u (selP (procB l name) l j)) ∧ Below w.heap.size w wr)
    (fun _ i _ => l.length - (intOf i).toNat)
  case atStart => exact ⟨0, Nat.zero_le _, rfl, ⟨OwnR.nil _ _ _ _ _ hN⟩, Below.refl _ _⟩
  case round =>
    obtain ⟨j, hj, rfl, hO, hB⟩ := hrel
    have hz := hB.size
    by_cases hlt : j < l.length
    · obtain ⟨b, o, e, Ae, ce, rfl, hbN, he, hEOk, x0, x1, x2, x3, x4, x5, x6, x7, x8, x9, x10, x11⟩ := (hr.out.below hB hN).atE j hlt
      have hsl := selP_len (procB l name) l j
      have hpb : procB l name j = (e.p.toList == name.toList) := by rw [sEq]; simp [procB, hlt, he]
      replace hEOk := Q.mk hEOk
      cases hp : procB l name j
      · have HS : Q (selP (procB l name) l (j + 1) = selP (procB l name) l j) := ⟨selP_off _ l j hp⟩
        rw [hp] at hpb
        replace hp := Q.mk hp
        have t1 := hpb.symm
        clear hpb he
        go_wp2
        go_roundw
        case rel => exact ⟨j + 1, by omega, by go_num, ⟨by rw [HS.out]; exact hO.out⟩, hB⟩
        case measure => simp [intOf] <;> omega
      · have HS : Q (selP (procB l name) l (j + 1) = selP (procB l name) l j ++ [e]) := ⟨selP_on _ l j hlt he hp⟩
        rw [hp] at hpb
        replace hp := Q.mk hp
        have t1 := hpb.symm
        clear hpb he
        go_wp2_with (first
          | (go_at_call 74; refine (event_ref e Ae ce B0 N0 _ hEOk.out (by omega)).mono ?_; rintro e2 w3 ⟨A4, c4, rfl, hv4, hb3⟩; replace hv4 := Q.mk hv4; have z3 := hb3.size)
          | (at_builtin; refine wpList_append1D _ rfl eEl (.tmp 20) (.tmp 26) 22 37 rfl Try.underlying22 infoE rfl (B1 := B0) (B' := wr.heap.size) (N' := w3.heap.size) (y := e) (H := w3.heap.size) (by rfl) (by rfl) (heap_alloc_at _ _ rfl) ((hO.out.below hb3 (Nat.le_refl _) (by omega)).alloc (by omega) _) (hv4.out.elim (fun h => .inl ⟨A4, c4, h.alloc (by omega) _, rfl⟩) (fun h => .inr ⟨A4, c4, h.alloc (Nat.le_refl _) _, rfl⟩)) ⟨Nat.le_refl _, hz⟩ (by simp) (by simp; omega) (by decide) (by simp only [eEl]; omega) ?_; intro g1 c1 w4 hO4 hg4 hat4))
        have BW : Below w.heap.size w w4 := hO.out.below_grown ((hB.trans (hb3.mono hz)).alloc (by omega) _) hg4 (Nat.le_refl _) (by simp; omega)
        clear hg4 hat4
        go_roundw
        case rel => exact ⟨j + 1, by omega, by go_num, ⟨by rw [HS.out]; exact hO4⟩, BW⟩
        case measure => simp [intOf] <;> omega
    · go_wp2
      go_ret
      obtain rfl : j = l.length := by omega
      exact ⟨_, rfl, hO.out, hB⟩
end Go.Proofs.Ytifakbipdmceiaa
end
section
set_option linter.unusedVariables false
set_option linter.unusedSimpArgs false
namespace Go.Proofs.Ytifakbipdmceiaa
open Go.RowKit

def objAtB (l : List Ev) (name : ByteArray) (c : Int) : Bool := decide (0 ≤ c) && (match l[c.toNat]? with | some y => (y.k == 1) && decide (y.o = name) | none => false)
def refObjB (l : List Ev) (name : ByteArray) (j : Nat) : Bool := match l[j]? with
  | none => false
  | some e => objAtB l name (if e.k = 2 then callR l j else j)
set_option maxHeartbeats 4000000 in
set_option maxRecDepth 100000 in
theorem Object_ref (l : List Ev) (A : Option Addr) (c B0 N0 : Nat) (name : ByteArray) (w : World) (hr0 : Row eEl B0 N0 w A l) (hN : N0 ≤ w.heap.size) (hc : l.length ≤ c) :
    Calls Try.prog 24 #[.slice A l.length c, .string name] w fun e w' => ∃ v, e = .returned v ∧ OwnR eEl 37 N0 w.heap.size w'.heap.size w' v (keepP (refObjB l name) l) ∧ Below w.heap.size w w' := by
  have hlen := hr0.lenE
  have hr := Q.mk hr0
  clear hr0
  go_enter Try.func24, Try.ntmps24
  go_wp2_with fail
  go_loopw [5, 6] (fun u i wr => ∃ j : Nat, j ≤ l.length ∧ i = .int .i64 j ∧ Q (OwnR eEl 37 N0 w.heap.size wr.heap.size wr u (selP (refObjB l name) l j)) ∧ Below w.heap.size w wr)
    (fun _ i _ => l.length - (intOf i).toNat)
  case atStart => exact ⟨0, Nat.zero_le _, rfl, ⟨OwnR.nil _ _ _ _ _ hN⟩, Below.refl _ _⟩
  case round =>
    obtain ⟨j, hj, rfl, hO, hB⟩ := hrel
    have hz := hB.size
    by_cases hlt : j < l.length
    · obtain ⟨b, o, e, Ae, ce, rfl, hbN, he, hEOk, x0, x1, x2, x3, x4, x5, x6, x7, x8, x9, x10, x11⟩ := (hr.out.below hB hN).atE j hlt
      have hsl := selP_len (refObjB l name) l j
      obtain ⟨q, hq⟩ : ∃ q, q = (if e.k = 2 then callR l j else (j : Int)) := ⟨_, rfl⟩
      have hpb : refObjB l name j = objAtB l name q := by rw [hq]; simp [refObjB, hlt, he]
      have hqb : -1 ≤ q ∧ q < l.length := by
        rw [hq]; have := callR_lt l j; split <;> omega
      replace hEOk := Q.mk hEOk
      have ARM : Q (∀ w1, Below w.heap.size w w1 → Calls Try.prog 37 #[.slice (some ⟨b, o, none⟩) l.length c, .int .i64 j] w1 fun e w' => e = .returned (.int .i64 (callR l j)) ∧ Below w1.heap.size w1 w') := ⟨fun w1 h => Call_ref l _ c B0 N0 j w1 (hr.out.below h hN) (by have := h.size; omega) hlt⟩
      have HOFF : Q (objAtB l name q = false → selP (refObjB l name) l (j + 1) = selP (refObjB l name) l j) := ⟨fun h => selP_off _ l j (by rw [hpb, h])⟩
      have HON : Q (objAtB l name q = true → selP (refObjB l name) l (j + 1) = selP (refObjB l name) l j ++ [e]) := ⟨fun h => selP_on _ l j hlt he (by rw [hpb, h])⟩
      have HVj : Q (objAtB l name (j : Int) = ((e.k == 1) && (e.o.toList == name.toList))) := ⟨by rw [sEq]; simp [objAtB, hlt, he]⟩
      clear he hpb
      by_cases k2 : e.k = 2
      · have t2 : (e.k == 2) = true := by simp [k2]
        rw [if_pos k2] at hq
        replace hq := Q.mk hq
        clear k2
        by_cases q0 : 0 ≤ q
        · obtain ⟨n, rfl⟩ : ∃ n : Nat, q = n := ⟨q.toNat, by omega⟩
          have hn : n < l.length := by omega
          obtain ⟨b', o', y, Ay, cy, hbo, hbN', hy, hEOk', y0, y1, y2, y3, y4, y5, y6, y7, y8, y9, y10, y11⟩ := (hr.out.below hB hN).atE n hn
          obtain ⟨rfl, rfl⟩ : b = b' ∧ o = o' := by simpa using hbo
          have HV : Q (objAtB l name (n : Int) = ((y.k == 1) && (y.o.toList == name.toList))) := ⟨by rw [sEq]; simp [objAtB, hn, hy]⟩
          clear hbo hy hEOk'
          cases h1 : (y.k == 1)
          · rw [h1] at HV
            have HS := Q.mk (HOFF.out (by rw [HV.out]; rfl))
            clear HOFF HON
            go_wp2_with (go_at_call 37; refine (ARM.out _ hB).mono ?_; rw [← hq.out]; rintro e9 w9 ⟨rfl, hb9⟩; have z9 := hb9.size; obtain ⟨hcc9, hff9, _⟩ := bcell hb9; have lb : b < wr.heap.size := (by omega))
            go_roundw
            case rel => exact ⟨j + 1, by omega, by go_num, ⟨by rw [HS.out]; exact (hO.out.below hb9 (Nat.le_refl _) (by omega)).widen z9 (Nat.le_refl _)⟩, hB.trans (hb9.mono hz)⟩
            case measure => simp [intOf] <;> omega
          · rw [h1] at HV
            cases h2 : (y.o.toList == name.toList)
            · rw [h2] at HV
              have HS := Q.mk (HOFF.out (by rw [HV.out]; rfl))
              clear HOFF HON
              go_wp2_with (go_at_call 37; refine (ARM.out _ hB).mono ?_; rw [← hq.out]; rintro e9 w9 ⟨rfl, hb9⟩; have z9 := hb9.size; obtain ⟨hcc9, hff9, _⟩ := bcell hb9; have lb : b < wr.heap.size := (by omega))
              go_roundw
              case rel => exact ⟨j + 1, by omega, by go_num, ⟨by rw [HS.out]; exact (hO.out.below hb9 (Nat.le_refl _) (by omega)).widen z9 (Nat.le_refl _)⟩, hB.trans (hb9.mono hz)⟩
              case measure => simp [intOf] <;> omega
            · rw [h2] at HV
              have HS := Q.mk (HON.out (by rw [HV.out]; rfl))
              clear HOFF HON
              go_wp2_with (first
                | (go_at_call 37; refine (ARM.out _ hB).mono ?_; rw [← hq.out]; rintro e9 w9 ⟨rfl, hb9⟩; have z9 := hb9.size; obtain ⟨hcc9, hff9, _⟩ := bcell hb9; have lb : b < wr.heap.size := (by omega))
                | (go_at_call 74; refine (event_ref e Ae ce B0 N0 _ (hEOk.out.below hb9 (by omega)) (by omega)).mono ?_; rintro e2 w3 ⟨A4, c4, rfl, hv4, hb3⟩; replace hv4 := Q.mk hv4; have z3 := hb3.size)
                | (at_builtin; refine wpList_append1D _ rfl eEl (.tmp 43) (.tmp 49) 22 37 rfl Try.underlying22 infoE rfl (B1 := B0) (B' := w9.heap.size) (N' := w3.heap.size) (y := e) (H := w3.heap.size) (by rfl) (by rfl) (heap_alloc_at _ _ rfl) ((((hO.out.below hb9 (Nat.le_refl _) (by omega)).widen z9 (Nat.le_refl _)).below hb3 (Nat.le_refl _) (by omega)).alloc (by omega) _) (hv4.out.elim (fun h => .inl ⟨A4, c4, h.alloc (by omega) _, rfl⟩) (fun h => .inr ⟨A4, c4, h.alloc (Nat.le_refl _) _, rfl⟩)) ⟨Nat.le_refl _, by omega⟩ (by simp) (by simp; omega) (by decide) (by simp only [eEl]; omega) ?_; intro g1 c1 w4 hO4 hg4 hat4))
              have BW : Below w.heap.size w w4 := hO.out.below_grown (((hB.trans (hb9.mono hz)).trans (hb3.mono (by omega))).alloc (by omega) _) hg4 (Nat.le_refl _) (by simp; omega)
              clear hg4 hat4
              go_roundw
              case rel => exact ⟨j + 1, by omega, by go_num, ⟨by rw [HS.out]; exact hO4⟩, BW⟩
              case measure => simp [intOf] <;> omega
        · have q1 : decide (0 ≤ q) = false := by simp; omega
          have q2 : q < 0 := by omega
          have HV : Q (objAtB l name q = false) := ⟨by rw [objAtB, q1]; rfl⟩
          clear q0
          have HS := Q.mk (HOFF.out (by exact HV.out))
          clear HOFF HON
          go_wp2_with (go_at_call 37; refine (ARM.out _ hB).mono ?_; rw [← hq.out]; rintro e9 w9 ⟨rfl, hb9⟩; have z9 := hb9.size; obtain ⟨hcc9, hff9, _⟩ := bcell hb9; have lb : b < wr.heap.size := (by omega))
          go_roundw
          case rel => exact ⟨j + 1, by omega, by go_num, ⟨by rw [HS.out]; exact (hO.out.below hb9 (Nat.le_refl _) (by omega)).widen z9 (Nat.le_refl _)⟩, hB.trans (hb9.mono hz)⟩
          case measure => simp [intOf] <;> omega
      · have t2 : (e.k == 2) = false := by simp [k2]
        rw [if_neg k2] at hq
        subst hq
        clear k2
        have HV := HVj
        clear HVj
        cases h1 : (e.k == 1)
        · rw [h1] at HV
          have HS := Q.mk (HOFF.out (by rw [HV.out]; rfl))
          clear HOFF HON
          go_wp2_with fail
          go_roundw
          case rel => exact ⟨j + 1, by omega, by go_num, ⟨by rw [HS.out]; exact hO.out⟩, hB⟩
          case measure => simp [intOf] <;> omega
        · rw [h1] at HV
          cases h2 : (e.o.toList == name.toList)
          · rw [h2] at HV
            have HS := Q.mk (HOFF.out (by rw [HV.out]; rfl))
            clear HOFF HON
            go_wp2_with fail
            go_roundw
            case rel => exact ⟨j + 1, by omega, by go_num, ⟨by rw [HS.out]; exact hO.out⟩, hB⟩
            case measure => simp [intOf] <;> omega
          · rw [h2] at HV
            have HS := Q.mk (HON.out (by rw [HV.out]; rfl))
            clear HOFF HON
            go_wp2_with (first
              | (go_at_call 74; refine (event_ref e Ae ce B0 N0 _ hEOk.out (by omega)).mono ?_; rintro e2 w3 ⟨A4, c4, rfl, hv4, hb3⟩; replace hv4 := Q.mk hv4; have z3 := hb3.size)
              | (at_builtin; refine wpList_append1D _ rfl eEl (.tmp 43) (.tmp 49) 22 37 rfl Try.underlying22 infoE rfl (B1 := B0) (B' := wr.heap.size) (N' := w3.heap.size) (y := e) (H := w3.heap.size) (by rfl) (by rfl) (heap_alloc_at _ _ rfl) ((hO.out.below hb3 (Nat.le_refl _) (by omega)).alloc (by omega) _) (hv4.out.elim (fun h => .inl ⟨A4, c4, h.alloc (by omega) _, rfl⟩) (fun h => .inr ⟨A4, c4, h.alloc (Nat.le_refl _) _, rfl⟩)) ⟨Nat.le_refl _, by omega⟩ (by simp) (by simp; omega) (by decide) (by simp only [eEl]; omega) ?_; intro g1 c1 w4 hO4 hg4 hat4))
            have BW : Below w.heap.size w w4 := hO.out.below_grown ((hB.trans (hb3.mono (by omega))).alloc (by omega) _) hg4 (Nat.le_refl _) (by simp; omega)
            clear hg4 hat4
            go_roundw
            case rel => exact ⟨j + 1, by omega, by go_num, ⟨by rw [HS.out]; exact hO4⟩, BW⟩
            case measure => simp [intOf] <;> omega
    · go_wp2
      go_ret
      obtain rfl : j = l.length := by omega
      exact ⟨_, rfl, hO.out, hB⟩
end Go.Proofs.Ytifakbipdmceiaa
end
