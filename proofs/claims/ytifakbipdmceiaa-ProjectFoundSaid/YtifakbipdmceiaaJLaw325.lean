import Derived.Test.YtifakbipdmceiaaJLaw321
import Derived.Test.YtifakbipdmceiaaJLaw324
set_option linter.unusedVariables false
set_option linter.unusedSimpArgs false
namespace Go.Proofs.Ytifakbipdmceiaa
open Go.RowKit

def objAtB (l : List Ev) (name : ByteArray) (c : Int) : Bool := decide (0 ≤ c) && (match l[c.toNat]? with | some y => (y.k == 1) && decide (y.o = name) | none => false)
def refObjB (l : List Ev) (name : ByteArray) (j : Nat) : Bool := match l[j]? with
  | none => false
  | some e => objAtB l name (if e.k = 2 then callR l j else j)
set_option maxHeartbeats 4000000 in
set_option maxRecDepth 100000 in
theorem Object_ref (l : List Ev) (A : Option Addr) (c B0 N0 : Nat) (name : ByteArray) (w : World) (hr0 : Row eEl B0 N0 w A l) (hN : N0 ≤ w.heap.size) (hc : l.length ≤ c) :
    Calls Try.prog 24 #[.slice A l.length c, .string name] w fun e w' => ∃ v, e = .returned v ∧ OwnR eEl 37 N0 w.heap.size w'.heap.size w' v (keepP (refObjB l name) l) ∧ Below w.heap.size w w' := by
  have hlen := hr0.lenE
  have hr := Q.mk hr0
  clear hr0
  go_enter Try.func24, Try.ntmps24
  go_wp2_with fail
  go_loopw [5, 6] (fun u i wr => ∃ j : Nat, j ≤ l.length ∧ i = .int .i64 j ∧ Q (OwnR eEl 37 N0 w.heap.size wr.heap.size wr u (selP (refObjB l name) l j)) ∧ Below w.heap.size w wr)
    (fun _ i _ => l.length - (intOf i).toNat)
  case atStart => exact ⟨0, Nat.zero_le _, rfl, ⟨OwnR.nil _ _ _ _ _ hN⟩, Below.refl _ _⟩
  case round =>
    obtain ⟨j, hj, rfl, hO, hB⟩ := hrel
    have hz := hB.size
    by_cases hlt : j < l.length
    · obtain ⟨b, o, e, Ae, ce, rfl, hbN, he, hEOk, x0, x1, x2, x3, x4, x5, x6, x7, x8, x9, x10, x11⟩ := (hr.out.below hB hN).atE j hlt
      have hsl := selP_len (refObjB l name) l j
      obtain ⟨q, hq⟩ : ∃ q, q = (if e.k = 2 then callR l j else (j : Int)) := ⟨_, rfl⟩
      have hpb : refObjB l name j = objAtB l name q := by rw [hq]; simp [refObjB, hlt, he]
      have hqb : -1 ≤ q ∧ q < l.length := by
        rw [hq]; have := callR_lt l j; split <;> omega
      replace hEOk := Q.mk hEOk
      have ARM : Q (∀ w1, Below w.heap.size w w1 → Calls Try.prog 37 #[.slice (some ⟨b, o, none⟩) l.length c, .int .i64 j] w1 fun e w' => e = .returned (.int .i64 (callR l j)) ∧ Below w1.heap.size w1 w') := ⟨fun w1 h => Call_ref l _ c B0 N0 j w1 (hr.out.below h hN) (by have := h.size; omega) hlt⟩
      have HOFF : Q (objAtB l name q = false → selP (refObjB l name) l (j + 1) = selP (refObjB l name) l j) := ⟨fun h => selP_off _ l j (by rw [hpb, h])⟩
      have HON : Q (objAtB l name q = true → selP (refObjB l name) l (j + 1) = selP (refObjB l name) l j ++ [e]) := ⟨fun h => selP_on _ l j hlt he (by rw [hpb, h])⟩
      have HVj : Q (objAtB l name (j : Int) = ((e.k == 1) && (e.o.toList == name.toList))) := ⟨by rw [sEq]; simp [objAtB, hlt, he]⟩
      clear he hpb
      by_cases k2 : e.k = 2
      · have t2 : (e.k == 2) = true := by simp [k2]
        rw [if_pos k2] at hq
        replace hq := Q.mk hq
        clear k2
        by_cases q0 : 0 ≤ q
        · obtain ⟨n, rfl⟩ : ∃ n : Nat, q = n := ⟨q.toNat, by omega⟩
          have hn : n < l.length := by omega
          obtain ⟨b', o', y, Ay, cy, hbo, hbN', hy, hEOk', y0, y1, y2, y3, y4, y5, y6, y7, y8, y9, y10, y11⟩ := (hr.out.below hB hN).atE n hn
          obtain ⟨rfl, rfl⟩ : b = b' ∧ o = o' := by simpa using hbo
          have HV : Q (objAtB l name (n : Int) = ((y.k == 1) && (y.o.toList == name.toList))) := ⟨by rw [sEq]; simp [objAtB, hn, hy]⟩
          clear hbo hy hEOk'
          cases h1 : (y.k == 1)
          · rw [h1] at HV
            have HS := Q.mk (HOFF.out (by rw [HV.out]; rfl))
            clear HOFF HON
            go_wp2_with (go_at_call 37; refine (ARM.out _ hB).mono ?_; rw [← hq.out]; rintro e9 w9 ⟨rfl, hb9⟩; have z9 := hb9.size; obtain ⟨hcc9, hff9, _⟩ := bcell hb9; have lb : b < wr.heap.size := (by omega))
            go_roundw
            case rel => exact ⟨j + 1, by omega, by go_num, ⟨by rw [HS.out]; exact (hO.out.below hb9 (Nat.le_refl _) (by omega)).widen z9 (Nat.le_refl _)⟩, hB.trans (hb9.mono hz)⟩
            case measure => simp [intOf] <;> omega
          · rw [h1] at HV
            cases h2 : (y.o.toList == name.toList)
            · rw [h2] at HV
              have HS := Q.mk (HOFF.out (by rw [HV.out]; rfl))
              clear HOFF HON
              go_wp2_with (go_at_call 37; refine (ARM.out _ hB).mono ?_; rw [← hq.out]; rintro e9 w9 ⟨rfl, hb9⟩; have z9 := hb9.size; obtain ⟨hcc9, hff9, _⟩ := bcell hb9; have lb : b < wr.heap.size := (by omega))
              go_roundw
              case rel => exact ⟨j + 1, by omega, by go_num, ⟨by rw [HS.out]; exact (hO.out.below hb9 (Nat.le_refl _) (by omega)).widen z9 (Nat.le_refl _)⟩, hB.trans (hb9.mono hz)⟩
              case measure => simp [intOf] <;> omega
            · rw [h2] at HV
              have HS := Q.mk (HON.out (by rw [HV.out]; rfl))
              clear HOFF HON
              go_wp2_with (first
                | (go_at_call 37; refine (ARM.out _ hB).mono ?_; rw [← hq.out]; rintro e9 w9 ⟨rfl, hb9⟩; have z9 := hb9.size; obtain ⟨hcc9, hff9, _⟩ := bcell hb9; have lb : b < wr.heap.size := (by omega))
                | (go_at_call 74; refine (event_ref e Ae ce B0 N0 _ (hEOk.out.below hb9 (by omega)) (by omega)).mono ?_; rintro e2 w3 ⟨A4, c4, rfl, hv4, hb3⟩; replace hv4 := Q.mk hv4; have z3 := hb3.size)
                | (at_builtin; refine wpList_append1D _ rfl eEl (.tmp 43) (.tmp 49) 22 37 rfl Try.underlying22 infoE rfl (B1 := B0) (B' := w9.heap.size) (N' := w3.heap.size) (y := e) (H := w3.heap.size) (by rfl) (by rfl) (heap_alloc_at _ _ rfl) ((((hO.out.below hb9 (Nat.le_refl _) (by omega)).widen z9 (Nat.le_refl _)).below hb3 (Nat.le_refl _) (by omega)).alloc (by omega) _) (hv4.out.elim (fun h => .inl ⟨A4, c4, h.alloc (by omega) _, rfl⟩) (fun h => .inr ⟨A4, c4, h.alloc (Nat.le_refl _) _, rfl⟩)) ⟨Nat.le_refl _, by omega⟩ (by simp) (by simp; omega) (by decide) (by simp only [eEl]; omega) ?_; intro g1 c1 w4 hO4 hg4 hat4))
              have BW : Below w.heap.size w w4 := hO.out.below_grown (((hB.trans (hb9.mono hz)).trans (hb3.mono (by omega))).alloc (by omega) _) hg4 (Nat.le_refl _) (by simp; omega)
              clear hg4 hat4
              go_roundw
              case rel => exact ⟨j + 1, by omega, by go_num, ⟨by rw [HS.out]; exact hO4⟩, BW⟩
              case measure => simp [intOf] <;> omega
        · have q1 : decide (0 ≤ q) = false := by simp; omega
          have q2 : q < 0 := by omega
          have HV : Q (objAtB l name q = false) := ⟨by rw [objAtB, q1]; rfl⟩
          clear q0
          have HS := Q.mk (HOFF.out (by exact HV.out))
          clear HOFF HON
          go_wp2_with (go_at_call 37; refine (ARM.out _ hB).mono ?_; rw [← hq.out]; rintro e9 w9 ⟨rfl, hb9⟩; have z9 := hb9.size; obtain ⟨hcc9, hff9, _⟩ := bcell hb9; have lb : b < wr.heap.size := (by omega))
          go_roundw
          case rel => exact ⟨j + 1, by omega, by go_num, ⟨by rw [HS.out]; exact (hO.out.below hb9 (Nat.le_refl _) (by omega)).widen z9 (Nat.le_refl _)⟩, hB.trans (hb9.mono hz)⟩
          case measure => simp [intOf] <;> omega
      · have t2 : (e.k == 2) = false := by simp [k2]
        rw [if_neg k2] at hq
        subst hq
        clear k2
        have HV := HVj
        clear HVj
        cases h1 : (e.k == 1)
        · rw [h1] at HV
          have HS := Q.mk (HOFF.out (by rw [HV.out]; rfl))
          clear HOFF HON
          go_wp2_with fail
          go_roundw
          case rel => exact ⟨j + 1, by omega, by go_num, ⟨by rw [HS.out]; exact hO.out⟩, hB⟩
          case measure => simp [intOf] <;> omega
        · rw [h1] at HV
          cases h2 : (e.o.toList == name.toList)
          · rw [h2] at HV
            have HS := Q.mk (HOFF.out (by rw [HV.out]; rfl))
            clear HOFF HON
            go_wp2_with fail
            go_roundw
            case rel => exact ⟨j + 1, by omega, by go_num, ⟨by rw [HS.out]; exact hO.out⟩, hB⟩
            case measure => simp [intOf] <;> omega
          · rw [h2] at HV
            have HS := Q.mk (HON.out (by rw [HV.out]; rfl))
            clear HOFF HON
            go_wp2_with (first
              | (go_at_call 74; refine (event_ref e Ae ce B0 N0 _ hEOk.out (by omega)).mono ?_; rintro e2 w3 ⟨A4, c4, rfl, hv4, hb3⟩; replace hv4 := Q.mk hv4; have z3 := hb3.size)
              | (at_builtin; refine wpList_append1D _ rfl eEl (.tmp 43) (.tmp 49) 22 37 rfl Try.underlying22 infoE rfl (B1 := B0) (B' := wr.heap.size) (N' := w3.heap.size) (y := e) (H := w3.heap.size) (by rfl) (by rfl) (heap_alloc_at _ _ rfl) ((hO.out.below hb3 (Nat.le_refl _) (by omega)).alloc (by omega) _) (hv4.out.elim (fun h => .inl ⟨A4, c4, h.alloc (by omega) _, rfl⟩) (fun h => .inr ⟨A4, c4, h.alloc (Nat.le_refl _) _, rfl⟩)) ⟨Nat.le_refl _, by omega⟩ (by simp) (by simp; omega) (by decide) (by simp only [eEl]; omega) ?_; intro g1 c1 w4 hO4 hg4 hat4))
            have BW : Below w.heap.size w w4 := hO.out.below_grown ((hB.trans (hb3.mono (by omega))).alloc (by omega) _) hg4 (Nat.le_refl _) (by simp; omega)
            clear hg4 hat4
            go_roundw
            case rel => exact ⟨j + 1, by omega, by go_num, ⟨by rw [HS.out]; exact hO4⟩, BW⟩
            case measure => simp [intOf] <;> omega
    · go_wp2
      go_ret
      obtain rfl : j = l.length := by omega
      exact ⟨_, rfl, hO.out, hB⟩
end Go.Proofs.Ytifakbipdmceiaa
