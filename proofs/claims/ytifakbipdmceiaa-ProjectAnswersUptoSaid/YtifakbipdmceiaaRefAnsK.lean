import Derived.Test.YtifakbipdmceiaaTwoK
import Derived.Test.YtifakbipdmceiaaJLawA37
import Derived.Test.YtifakbipdmceiaaJLawA28
import Derived.Test.YtifakbipdmceiaaJLawA40
set_option linter.unusedVariables false
set_option linter.unusedSimpArgs false
namespace Go.Proofs.Ytifakbipdmceiaa
open Go.RowKit Go.Proofs.YtifakbipdmceiaaW.PrintLast

/-! ### the reference's Answered -/
def namesP (rs : List Ev) (m : Nat) : List ByteArray := (rs.take m).map (·.p)
def okF (l rs : List Ev) (m : Nat) : Prop := ∃ r, rs[m]? = some r ∧ r.k = 2 ∧ (∃ i e, lastF l r.p l.length = some i ∧ l[i.toNat]? = some e ∧ e.k = 1) ∧ inS r.p (namesP rs m) = false ∧ rightB r.v = true
def ransP (l rs : List Ev) : Prop := ∀ m, m < rs.length → okF l rs m
theorem once_same {nm : List ByteArray} {s : ByteArray} (h : inS s nm = true) : (((onceP nm s).length : Int) == (nm.length : Int)) = true := by rw [onceP, h]; simp
theorem once_more {nm : List ByteArray} {s : ByteArray} (h : inS s nm = false) : (((onceP nm s).length : Int) == (nm.length : Int)) = false := by rw [onceP, h]; simp; omega
theorem once_app {nm : List ByteArray} {s : ByteArray} (h : inS s nm = false) : onceP nm s = nm ++ [s] := by rw [onceP, h]; rfl
def lastI (l : List Ev) (s : ByteArray) (k : Nat) : Int := (lastF l s k).getD (-1)
theorem lastI_step (l : List Ev) (s : ByteArray) (k : Nat) (hk : k < l.length) {y : Ev} (hy : l[k] = y) : lastI l s (k + 1) = if s = y.p then (k : Int) else lastI l s k := by
  rw [lastI, lastF, show l[k]? = some y by simp [hk, hy]]
  dsimp only
  by_cases h : s = y.p
  · rw [if_pos h, if_pos h]; rfl
  · rw [if_neg h, if_neg h]; rfl
theorem lastI_lt (l : List Ev) (s : ByteArray) (k : Nat) : -1 ≤ lastI l s k ∧ lastI l s k < k := by
  unfold lastI
  cases h : lastF l s k with
  | none => simp; omega
  | some i => have := lastF_lt l s k i h; simp; omega
theorem namesP_succ (rs : List Ev) (m : Nat) (hm : m < rs.length) {r : Ev} (hr : rs[m] = r) : namesP rs (m + 1) = namesP rs m ++ [r.p] := by
  rw [namesP, List.take_succ_eq_append_getElem hm, List.map_append, hr]; rfl
set_option maxHeartbeats 8000000 in
set_option maxRecDepth 100000 in
theorem Answered_ref (l rs : List Ev) (A A' : Option Addr) (c c' B0 N0 : Nat) (w : World) (hx0 : Row eEl B0 N0 w A l) (hy0 : Row eEl B0 N0 w A' rs) (hN : N0 ≤ w.heap.size) (hcx : l.length ≤ c) (hcy : rs.length ≤ c') (hsum : (l.length + rs.length) * 144 ≤ 140737488355328) (ty0 : ∀ e ∈ rs, TxV e.v) :
    Calls Try.prog 29 #[.slice A l.length c, .slice A' rs.length c'] w fun e w' => Below w.heap.size w w' ∧
      ((ransP l rs ∧ ∃ v, e = .returned (.tuple #[v, .int .i64 0]) ∧ OwnR eEl 37 N0 w.heap.size w'.heap.size w' v (l ++ rs)) ∨ (¬ ransP l rs ∧ e = .returned (.tuple #[.slice none 0 0, .int .i64 80]))) := by
  have hlx := hx0.lenE
  have hly := hy0.lenE
  have hx := Q.mk hx0
  have hy := Q.mk hy0
  have ty := Q.mk ty0
  clear hx0 hy0 ty0
  go_enter Try.func29, Try.ntmps29
  go_wp2_with fail
  go_loopw [6, 7] (fun u i wr => ∃ j : Nat, j ≤ l.length ∧ i = .int .i64 j ∧ Q (OwnR eEl 37 N0 w.heap.size wr.heap.size wr u (l.take j)) ∧ Below w.heap.size w wr)
    (fun _ i _ => l.length - (intOf i).toNat)
  case atStart => exact ⟨0, Nat.zero_le _, rfl, ⟨OwnR.nil _ _ _ _ _ hN⟩, Below.refl _ _⟩
  case round =>
    obtain ⟨j, hj, rfl, hO, hB⟩ := hrel
    have hz := hB.size
    by_cases hlt : j < l.length
    · obtain ⟨b, o, e, Ae, ce, rfl, hbN, he, hEOk, x0, x1, x2, x3, x4, x5, x6, x7, x8, x9, x10, x11⟩ := (hx.out.below hB hN).atE j hlt
      have HS : Q (l.take (j + 1) = l.take j ++ [e]) := ⟨by rw [List.take_succ_eq_append_getElem hlt, he]⟩
      have hsl : (l.take j).length ≤ j := by simp; omega
      have hse : Q ((l.take j).length = j) := ⟨by simp; omega⟩
      replace hEOk := Q.mk hEOk
      clear he
      go_wp2_with (first
        | (go_at_call 74; refine (event_ref e Ae ce B0 N0 _ hEOk.out (by omega)).mono ?_; rintro e2 w3 ⟨A4, c4, rfl, hv4, hb3⟩; replace hv4 := Q.mk hv4; have z3 := hb3.size)
        | (at_builtin; refine wpList_append1D _ rfl eEl (.tmp 20) (.tmp 26) 22 37 rfl Try.underlying22 infoE rfl (B1 := B0) (B' := wr.heap.size) (N' := w3.heap.size) (y := e) (H := w3.heap.size) (by rfl) (by rfl) (heap_alloc_at _ _ rfl) ((hO.out.below hb3 (Nat.le_refl _) (by omega)).alloc (by omega) _) (hv4.out.elim (fun h => .inl ⟨A4, c4, h.alloc (by omega) _, rfl⟩) (fun h => .inr ⟨A4, c4, h.alloc (Nat.le_refl _) _, rfl⟩)) ⟨Nat.le_refl _, by omega⟩ (by simp) (by simp; omega) (by decide) (by simp only [eEl]; omega) ?_; intro g1 c1 w4 hO4 hg4 hat4))
      have BW : Below w.heap.size w w4 := hO.out.below_grown ((hB.trans (hb3.mono (by omega))).alloc (by omega) _) hg4 (Nat.le_refl _) (by simp; omega)
      clear hg4 hat4
      go_roundw
      case rel => exact ⟨j + 1, by omega, by go_num, ⟨by rw [HS.out]; have h := hO4; rw [hse.out] at h; exact h⟩, BW⟩
      case measure => simp [intOf] <;> omega
    · obtain rfl : j = l.length := by omega
      have hT0 : Q (Two N0 w.heap.size wr u6 (.slice none 0 0) (l ++ rs.take 0) (namesP rs 0)) := ⟨by
        have h1 := hO.out
        rw [List.take_length] at h1
        simp only [List.take_zero, List.append_nil]
        exact Two.start h1 hz⟩
      clear hO
      go_wp2_with fail
      go_loopw [6, 8, 9] (fun u v i wr => ∃ m : Nat, m ≤ rs.length ∧ i = .int .i64 m ∧ Q (Two N0 w.heap.size wr u v (l ++ rs.take m) (namesP rs m)) ∧ Q (∀ m', m' < m → okF l rs m') ∧ Below w.heap.size w wr)
        (fun _ _ i _ => rs.length - (intOf i).toNat)
      case atStart => exact ⟨0, Nat.zero_le _, rfl, hT0, ⟨fun m' h => by omega⟩, hB⟩
      case round =>
        clear hT0 hB hz
        obtain ⟨m, hm, rfl, hT, hok, hB⟩ := hrel
        obtain ⟨wo, rfl⟩ : ∃ wo : World, wo = wr := ⟨_, rfl⟩
        have hz := hB.size
        by_cases hlm : m < rs.length
        · obtain ⟨b, o, r, Ar, cr, rfl, hbN, hr, hrOk, x0, x1, x2, x3, x4, x5, x6, x7, x8, x9, x10, x11⟩ := (hy.out.below hB hN).atE m hlm
          have htx : TxV r.v := ty.out r (by rw [← hr]; exact List.getElem_mem hlm)
          have hr1 : rs[m]? = some r := by simp [hlm, hr]
          have hps : r.p.size ≤ 140737488355328 := hrOk.p
          have hnm : (namesP rs m).length ≤ m := by simp [namesP]; omega
          obtain ⟨An, cn, hvn, hcn, hrn⟩ := hT.out.names.row
          subst hvn
          have hTl : (l ++ rs.take m).length ≤ l.length + m := by simp; omega
          have hTk : l ++ rs.take (m + 1) = (l ++ rs.take m) ++ [r] := by rw [List.take_succ_eq_append_getElem hlm, hr, List.append_assoc]
          have hNk := namesP_succ rs m hlm hr
          obtain ⟨nm, hnme⟩ : ∃ x, x = namesP rs m := ⟨_, rfl⟩
          obtain ⟨xs, hxse⟩ : ∃ x, x = l ++ rs.take m := ⟨_, rfl⟩
          rw [← hnme] at hT hnm hcn hNk
          rw [← hxse] at hT hTl hTk
          rw [← hnme]
          obtain ⟨W1, hW1, bx, BB1, Z1⟩ := boxes1 wo (.cells #[.int .i64 r.k, .string r.p, .string r.o, .string r.q, .int .i64 r.v.kind, .int .i64 r.v.int, .int .i64 r.v.im, .string r.v.text, .slice Ar r.v.items.length cr, .int .i64 r.a, .int .i64 r.b, .int .i64 r.c] 37)
          have T1 : Q (Two N0 w.heap.size W1 u6 (.slice An nm.length cn) xs nm) := ⟨hT.out.below BB1 (Nat.le_refl _)⟩
          have hnl : ∀ g, (Value.slice An nm.length cn).ownBlock = some g → w.heap.size ≤ g ∧ g < wo.heap.size := fun g hg => ownsRow_lt hT.out.oy hg
          have hul : ∀ g, u6.ownBlock = some g → w.heap.size ≤ g := fun g hg => (hT.out.rowE.lt hg).1
          have XR : Q (Row eEl B0 N0 W1 A l) := ⟨(hx.out.below hB hN).below BB1 (by omega)⟩
          have bel1 : Below w.heap.size w W1 := hB.trans (BB1.mono hz)
          have hlast := lastI_lt l r.p l.length
          have lN1 : N0 ≤ W1.heap.size := by omega
          have lw1 : wo.heap.size < W1.heap.size := by omega
          have lww : w.heap.size ≤ W1.heap.size := by omega
          have hns : nm.length * 16 ≤ 140737488355328 := hT.out.ly
          have hl7 : (xs.length + 1) * 144 ≤ 140737488355328 := by omega
          have lnm : nm.length < 4611686018427387904 := by omega
          have hokr : okF l rs m ↔ (r.k = 2 ∧ (∃ i e, lastF l r.p l.length = some i ∧ l[i.toNat]? = some e ∧ e.k = 1) ∧ inS r.p nm = false ∧ rightB r.v = true) := by
            rw [okF, hr1, ← hnme]
            constructor
            · rintro ⟨r', h1, h2⟩; cases h1; exact h2
            · intro h; exact ⟨r, rfl, h⟩
          have bad : ¬ (r.k = 2 ∧ (∃ i e, lastF l r.p l.length = some i ∧ l[i.toNat]? = some e ∧ e.k = 1) ∧ inS r.p nm = false ∧ rightB r.v = true) → ¬ ransP l rs := fun h h2 => h (hokr.1 (h2 m hlm))
          replace hr := Q.mk hr
          replace hr1 := Q.mk hr1
          replace htx := Q.mk htx
          replace hTk := Q.mk hTk
          replace hNk := Q.mk hNk
          replace hokr := Q.mk hokr
          replace bad := Q.mk bad
          replace hnl := Q.mk hnl
          replace hul := Q.mk hul
          replace hnme := Q.mk hnme
          replace hxse := Q.mk hxse
          have hrOk := Q.mk hrOk
          clear hT hrn
          go_wp2_with fail
          rw [← hW1]
          clear hW1 BB1 x0 x1 x2 x3 x4 x5 x6 x7 x8 x9 x10 x11
          go_loopw [11, 12] (fun a i wq => ∃ (k : Nat) (z : Int), k ≤ l.length ∧ i = .int .i64 k ∧ a = .int .i64 z ∧ Q (z = lastI l r.p k) ∧ -1 ≤ z ∧ z < l.length ∧ Below W1.heap.size W1 wq) (fun _ i _ => l.length - (intOf i).toNat)
          case atStart => exact ⟨0, -1, Nat.zero_le _, rfl, rfl, ⟨rfl⟩, Int.le_refl _, by omega, Below.refl _ _⟩
          case round =>
            obtain ⟨k, z, hk, rfl, rfl, hzl, hz0, hz1, hBq⟩ := hrel
            have hbx := Q.mk (hBq.box bx.out lw1)
            obtain ⟨p0, p1, p2, p3, p4, p5, p6, p7, p8, p9, p10, p11, pf⟩ := box12 hbx.out
            have zq := hBq.size
            by_cases hlk : k < l.length
            · obtain ⟨b2, o2, y, Ay, cy, rfl, hbN2, hy2, hyOk, y0, y1, _⟩ := (XR.out.below hBq lN1).atE k hlk
              have hst := lastI_step l r.p k hlk hy2
              have lb2 : b2 < wr.heap.size := by omega
              replace hst := Q.mk hst
              clear hy2 hyOk
              by_cases hp : y.p = r.p
              · have t1 : (y.p.toList == r.p.toList) = true := by rw [sEq]; simp [hp]
                have HZ : Q ((k : Int) = lastI l r.p (k + 1)) := ⟨by rw [hst.out, if_pos hp.symm]⟩
                clear hp hst
                go_wp2_with fail
                refine start_ (n := 8) (S := fun w' => Q (Below W1.heap.size W1 w') ∧ w'.cell? ⟨b2, o2 + k * 12 + 1, none⟩ = some (.string y.p) ∧ w'.cell? ⟨wo.heap.size, 1, none⟩ = some (.string r.p)) (ds := []) #[false, false, false, false, false, false, false, false] (by kernel_rfl) rfl rfl ⟨⟨hBq.drew⟩, by go_keep⟩ (fun hHeld => ?_)
                refine pure_ (i := 0) (N := some 44) (v := ?_) (a' := ?_) #[true, false, false, false, false, false, false, false] rfl rfl (by kernel_rfl) (fun _ _ _ h => h) (Or.inl ⟨by rfl, ?_⟩) ?_ ?_
                rotate_left
                · intro w'
                  go_simp
                  with_reducible rfl
                rotate_left
                · simp only [Act.put, List.setIfInBounds_toArray, List.set_cons_zero, List.set_cons_succ, i64_w, i32_w]
                  rfl
                refine pure_ (i := 1) (N := some 45) (v := ?_) (a' := ?_) #[true, true, false, false, false, false, false, false] rfl rfl (by kernel_rfl) (fun _ _ _ h => h) (Or.inl ⟨by rfl, ?_⟩) ?_ ?_
                rotate_left
                · intro w'
                  go_simp
                  with_reducible rfl
                rotate_left
                · simp only [Act.put, List.setIfInBounds_toArray, List.set_cons_zero, List.set_cons_succ, i64_w, i32_w]
                  rfl
                refine pure_ (i := 2) (N := some 46) (v := ?_) (a' := ?_) #[true, true, true, false, false, false, false, false] rfl rfl (by kernel_rfl) (fun _ _ _ h => h) (Or.inl ⟨by rfl, ?_⟩) ?_ ?_
                rotate_left
                · intro w'
                  go_simp
                  with_reducible rfl
                rotate_left
                · simp only [Act.put, List.setIfInBounds_toArray, List.set_cons_zero, List.set_cons_succ, i64_w, i32_w]
                  rfl
                refine pure_ (i := 3) (N := some 47) (v := ?_) (a' := ?_) #[true, true, true, true, false, false, false, false] rfl rfl (by kernel_rfl) (fun _ _ _ h => h) (Or.inl ⟨by rfl, ?_⟩) ?_ ?_
                rotate_left
                · intro w'
                  go_simp
                  with_reducible rfl
                rotate_left
                · simp only [Act.put, List.setIfInBounds_toArray, List.set_cons_zero, List.set_cons_succ, i64_w, i32_w]
                  rfl
                refine take_ (i := 4) (N := some 48) (v := ?_) (a' := ?_) #[true, true, true, true, true, false, false, false] rfl rfl (by kernel_rfl) (fun _ _ _ h => h) (Or.inl ⟨by rfl, ?_⟩) hHeld ?_ ?_
                rotate_left
                · rintro w' ⟨s0_, s1_, s2_⟩
                  go_simp
                  with_reducible rfl
                rotate_left
                · simp only [Act.put, List.setIfInBounds_toArray, List.set_cons_zero, List.set_cons_succ, i64_w, i32_w]
                  rfl
                refine pure_ (i := 5) (N := some 49) (v := ?_) (a' := ?_) #[true, true, true, true, true, true, false, false] rfl rfl (by kernel_rfl) (fun _ _ _ h => h) (Or.inl ⟨by rfl, ?_⟩) ?_ ?_
                rotate_left
                · intro w'
                  go_simp
                  with_reducible rfl
                rotate_left
                · simp only [Act.put, List.setIfInBounds_toArray, List.set_cons_zero, List.set_cons_succ, i64_w, i32_w]
                  rfl
                refine take_ (i := 6) (N := some 50) (v := ?_) (a' := ?_) #[true, true, true, true, true, true, true, false] rfl rfl (by kernel_rfl) (fun _ _ _ h => h) (Or.inl ⟨by rfl, ?_⟩) hHeld ?_ ?_
                rotate_left
                · rintro w' ⟨s0_, s1_, s2_⟩
                  go_simp
                  with_reducible rfl
                rotate_left
                · simp only [Act.put, List.setIfInBounds_toArray, List.set_cons_zero, List.set_cons_succ, i64_w, i32_w]
                  rfl
                refine pure_ (i := 7) (N := some 51) (v := ?_) (a' := ?_) #[true, true, true, true, true, true, true, true] rfl rfl (by kernel_rfl) (fun _ _ _ h => h) (Or.inl ⟨by rfl, ?_⟩) ?_ ?_
                rotate_left
                · intro w'
                  go_simp
                  with_reducible rfl
                rotate_left
                · simp only [Act.put, List.setIfInBounds_toArray, List.set_cons_zero, List.set_cons_succ, i64_w, i32_w]
                  rfl
                refine done_ (by kernel_rfl) ?_
                have B5' := hHeld.1.out
                go_wp2_with fail
                go_roundw
                case rel => exact ⟨k + 1, k, by omega, by go_num, rfl, HZ, by omega, by omega, B5'⟩
                case measure => simp [intOf]; omega
              · have t1 : (y.p.toList == r.p.toList) = false := by rw [sEq]; simp [hp]
                have HZ : Q (z = lastI l r.p (k + 1)) := ⟨by rw [hst.out, if_neg (fun h => hp h.symm)]; exact hzl.out⟩
                clear hp hst
                go_wp2_with fail
                refine start_ (n := 8) (S := fun w' => Q (Below W1.heap.size W1 w') ∧ w'.cell? ⟨b2, o2 + k * 12 + 1, none⟩ = some (.string y.p) ∧ w'.cell? ⟨wo.heap.size, 1, none⟩ = some (.string r.p)) (ds := []) #[false, false, false, false, false, false, false, false] (by kernel_rfl) rfl rfl ⟨⟨hBq.drew⟩, by go_keep⟩ (fun hHeld => ?_)
                refine pure_ (i := 0) (N := some 44) (v := ?_) (a' := ?_) #[true, false, false, false, false, false, false, false] rfl rfl (by kernel_rfl) (fun _ _ _ h => h) (Or.inl ⟨by rfl, ?_⟩) ?_ ?_
                rotate_left
                · intro w'
                  go_simp
                  with_reducible rfl
                rotate_left
                · simp only [Act.put, List.setIfInBounds_toArray, List.set_cons_zero, List.set_cons_succ, i64_w, i32_w]
                  rfl
                refine pure_ (i := 1) (N := some 45) (v := ?_) (a' := ?_) #[true, true, false, false, false, false, false, false] rfl rfl (by kernel_rfl) (fun _ _ _ h => h) (Or.inl ⟨by rfl, ?_⟩) ?_ ?_
                rotate_left
                · intro w'
                  go_simp
                  with_reducible rfl
                rotate_left
                · simp only [Act.put, List.setIfInBounds_toArray, List.set_cons_zero, List.set_cons_succ, i64_w, i32_w]
                  rfl
                refine pure_ (i := 2) (N := some 46) (v := ?_) (a' := ?_) #[true, true, true, false, false, false, false, false] rfl rfl (by kernel_rfl) (fun _ _ _ h => h) (Or.inl ⟨by rfl, ?_⟩) ?_ ?_
                rotate_left
                · intro w'
                  go_simp
                  with_reducible rfl
                rotate_left
                · simp only [Act.put, List.setIfInBounds_toArray, List.set_cons_zero, List.set_cons_succ, i64_w, i32_w]
                  rfl
                refine pure_ (i := 3) (N := some 47) (v := ?_) (a' := ?_) #[true, true, true, true, false, false, false, false] rfl rfl (by kernel_rfl) (fun _ _ _ h => h) (Or.inl ⟨by rfl, ?_⟩) ?_ ?_
                rotate_left
                · intro w'
                  go_simp
                  with_reducible rfl
                rotate_left
                · simp only [Act.put, List.setIfInBounds_toArray, List.set_cons_zero, List.set_cons_succ, i64_w, i32_w]
                  rfl
                refine take_ (i := 4) (N := some 48) (v := ?_) (a' := ?_) #[true, true, true, true, true, false, false, false] rfl rfl (by kernel_rfl) (fun _ _ _ h => h) (Or.inl ⟨by rfl, ?_⟩) hHeld ?_ ?_
                rotate_left
                · rintro w' ⟨s0_, s1_, s2_⟩
                  go_simp
                  with_reducible rfl
                rotate_left
                · simp only [Act.put, List.setIfInBounds_toArray, List.set_cons_zero, List.set_cons_succ, i64_w, i32_w]
                  rfl
                refine pure_ (i := 5) (N := some 49) (v := ?_) (a' := ?_) #[true, true, true, true, true, true, false, false] rfl rfl (by kernel_rfl) (fun _ _ _ h => h) (Or.inl ⟨by rfl, ?_⟩) ?_ ?_
                rotate_left
                · intro w'
                  go_simp
                  with_reducible rfl
                rotate_left
                · simp only [Act.put, List.setIfInBounds_toArray, List.set_cons_zero, List.set_cons_succ, i64_w, i32_w]
                  rfl
                refine take_ (i := 6) (N := some 50) (v := ?_) (a' := ?_) #[true, true, true, true, true, true, true, false] rfl rfl (by kernel_rfl) (fun _ _ _ h => h) (Or.inl ⟨by rfl, ?_⟩) hHeld ?_ ?_
                rotate_left
                · rintro w' ⟨s0_, s1_, s2_⟩
                  go_simp
                  with_reducible rfl
                rotate_left
                · simp only [Act.put, List.setIfInBounds_toArray, List.set_cons_zero, List.set_cons_succ, i64_w, i32_w]
                  rfl
                refine pure_ (i := 7) (N := some 51) (v := ?_) (a' := ?_) #[true, true, true, true, true, true, true, true] rfl rfl (by kernel_rfl) (fun _ _ _ h => h) (Or.inl ⟨by rfl, ?_⟩) ?_ ?_
                rotate_left
                · intro w'
                  go_simp
                  with_reducible rfl
                rotate_left
                · simp only [Act.put, List.setIfInBounds_toArray, List.set_cons_zero, List.set_cons_succ, i64_w, i32_w]
                  rfl
                refine done_ (by kernel_rfl) ?_
                have B5' := hHeld.1.out
                go_wp2_with fail
                go_roundw
                case rel => exact ⟨k + 1, z, by omega, by go_num, rfl, HZ, hz0, hz1, B5'⟩
                case measure => simp [intOf]; omega
            · obtain rfl : k = l.length := by omega
              obtain ⟨wq, rfl⟩ : ∃ wq : World, wq = wr := ⟨_, rfl⟩
              have Tq := Q.mk (T1.out.below hBq (Nat.le_refl _))
              have hlastq : Q ((∃ i e, lastF l r.p l.length = some i ∧ l[i.toNat]? = some e ∧ e.k = 1) ↔ (0 ≤ z ∧ ∃ e, l[z.toNat]? = some e ∧ e.k = 1)) := ⟨by
                have h1 := hzl.out
                rw [lastI] at h1
                constructor
                · rintro ⟨i, e, h2, h3, h4⟩
                  have := lastF_lt l r.p _ i h2
                  rw [h2] at h1
                  have h5 : z = i := h1
                  subst h5
                  exact ⟨this.1, e, h3, h4⟩
                · rintro ⟨h2, e, h3, h4⟩
                  cases h5 : lastF l r.p l.length with
                  | none => rw [h5] at h1; simp at h1; omega
                  | some i =>
                    rw [h5] at h1
                    have h6 : z = i := h1
                    subst h6
                    exact ⟨z, e, rfl, h3, h4⟩⟩
              have ARM : Q (Calls Try.prog 71 #[.slice An nm.length cn, .string r.p] wq fun e w' => ∃ v2, e = .returned v2 ∧ Own sEl 9 w.heap.size w'.heap.size w' v2 (onceP nm r.p) ∧ wq.grownBy w' (Value.slice An nm.length cn).ownBlock ∧ ∀ g, v2.ownBlock = some g → (Value.slice An nm.length cn).ownBlock = some g ∨ wq.heap.size ≤ g) :=
                ⟨once_grown nm r.p An cn w.heap.size wq.heap.size wq Tq.out.names (by omega) (by omega) hcn hps (by omega)⟩
              have hgn : Q (∀ w3, wq.grownBy w3 (Value.slice An nm.length cn).ownBlock → Below w.heap.size w w3 ∧ w3.heap[wo.heap.size]? = some (.cells #[.int .i64 r.k, .string r.p, .string r.o, .string r.q, .int .i64 r.v.kind, .int .i64 r.v.int, .int .i64 r.v.im, .string r.v.text, .slice Ar r.v.items.length cr, .int .i64 r.a, .int .i64 r.b, .int .i64 r.c] 37 (0, 0))) := ⟨fun w3 hg => ⟨(bel1.trans (hBq.mono lww)).grown hg (by omega) (fun g e => (hnl.out g e).1), (hg.block _ (box_lt hbx.out) (fun e => by have := (hnl.out _ e.symm).2; omega)).trans hbx.out⟩⟩
              have hx3 : Q (∀ w3, Below w.heap.size w w3 → Row eEl B0 N0 w3 A l ∧ EOk B0 N0 w3 r Ar cr) := ⟨fun w3 hb => ⟨hx.out.below hb hN, hrOk.out.loc fun b _ hn => (hb.block b (by omega)).trans (hB.block b (by omega)).symm⟩⟩
              clear p0 p2 p3 p4 p5 p6 p7 p8 p9 p10 p11 pf hzl XR T1
              obtain ⟨rn, hrn⟩ : ∃ b, b = inS r.p nm := ⟨_, rfl⟩
              rw [← hrn] at bad hokr
              by_cases k2 : r.k = 2
              rotate_left
              · have HB := Q.mk (bad.out (fun h => k2 h.1))
                have t1 : (r.k != 2) = true := by simp [k2]
                clear k2 hokr bad hlastq
                go_wp2_with (go_at_call 71; refine ARM.out.mono ?_; rintro e3 w3 ⟨v2, rfl, ho3, hg3, hat3⟩; obtain ⟨B3, H3⟩ := hgn.out w3 hg3; obtain ⟨X3, R3⟩ := hx3.out w3 B3; have T3 := Tq.out.named hg3 ho3 hat3; have n3 : N0 ≤ w3.heap.size := Nat.le_trans hN B3.size; obtain ⟨A3, c3, rfl, hc3, hrow3⟩ := ho3.row; obtain ⟨p0, p1, p2, p3, p4, p5, p6, p7, p8, p9, p10, p11, pf⟩ := box12 H3; have lb3 := box_lt H3; replace T3 := Q.mk T3; replace H3 := Q.mk H3; replace R3 := Q.mk R3; clear ho3 hg3 hat3 hrow3)
                go_ret2
                exact ⟨B3, .inr ⟨HB.out, rfl⟩⟩
              have t1 : (r.k != 2) = false := by simp [k2]
              by_cases z0 : z < 0
              · have HB := Q.mk (bad.out (fun h => by have := (hlastq.out.1 h.2.1).1; omega))
                have t2 : decide (z < 0) = true := by simp [z0]
                clear k2 hokr bad hlastq
                go_wp2_with (go_at_call 71; refine ARM.out.mono ?_; rintro e3 w3 ⟨v2, rfl, ho3, hg3, hat3⟩; obtain ⟨B3, H3⟩ := hgn.out w3 hg3; obtain ⟨X3, R3⟩ := hx3.out w3 B3; have T3 := Tq.out.named hg3 ho3 hat3; have n3 : N0 ≤ w3.heap.size := Nat.le_trans hN B3.size; obtain ⟨A3, c3, rfl, hc3, hrow3⟩ := ho3.row; obtain ⟨p0, p1, p2, p3, p4, p5, p6, p7, p8, p9, p10, p11, pf⟩ := box12 H3; have lb3 := box_lt H3; replace T3 := Q.mk T3; replace H3 := Q.mk H3; replace R3 := Q.mk R3; clear ho3 hg3 hat3 hrow3)
                go_ret2
                exact ⟨B3, .inr ⟨HB.out, rfl⟩⟩
              obtain ⟨zn, hzn0⟩ : ∃ n : Nat, z = (n : Int) := ⟨z.toNat, (Int.toNat_of_nonneg (by omega)).symm⟩
              subst hzn0
              have hzn : zn < l.length := by omega
              obtain ⟨b2, o2, y, _, _, rfl, hbN2, hyy, _, _⟩ := hx.out.atE zn hzn
              have hyl : l[((zn : Nat) : Int).toNat]? = some y := by simp [hzn, hyy]
              replace hyy := Q.mk hyy
              by_cases k1 : y.k = 1
              rotate_left
              · have HB := Q.mk (bad.out (fun h => by obtain ⟨_, e, h2, h3⟩ := hlastq.out.1 h.2.1; rw [hyl] at h2; cases h2; exact k1 h3))
                have t3 : (y.k != 1) = true := by simp [k1]
                clear k1 k2 hokr bad hlastq hyl
                go_wp2_with (go_at_call 71; refine ARM.out.mono ?_; rintro e3 w3 ⟨v2, rfl, ho3, hg3, hat3⟩; obtain ⟨B3, H3⟩ := hgn.out w3 hg3; obtain ⟨X3, R3⟩ := hx3.out w3 B3; have T3 := Tq.out.named hg3 ho3 hat3; have n3 : N0 ≤ w3.heap.size := Nat.le_trans hN B3.size; obtain ⟨A3, c3, rfl, hc3, hrow3⟩ := ho3.row; obtain ⟨p0, p1, p2, p3, p4, p5, p6, p7, p8, p9, p10, p11, pf⟩ := box12 H3; have lb3 := box_lt H3; replace T3 := Q.mk T3; replace H3 := Q.mk H3; replace R3 := Q.mk R3; clear ho3 hg3 hat3 hrow3; obtain ⟨b3, o3, y3, Ay, cy, hbo, hbN3, hy3, hyOk, y0, _⟩ := X3.atE zn hzn; obtain ⟨rfl, rfl⟩ : b2 = b3 ∧ o2 = o3 := (by simpa using hbo); rw [hyy.out] at hy3; subst hy3; clear hbo hyOk X3)
                go_ret2
                exact ⟨B3, .inr ⟨HB.out, rfl⟩⟩
              have t3 : (y.k != 1) = false := by simp [k1]
              cases rn
              rotate_left
              · have HB := Q.mk (bad.out (fun h => by cases h.2.2.1))
                have td := once_same hrn.symm
                clear k1 k2 hokr bad hlastq hyl hrn
                go_wp2_with (go_at_call 71; refine ARM.out.mono ?_; rintro e3 w3 ⟨v2, rfl, ho3, hg3, hat3⟩; obtain ⟨B3, H3⟩ := hgn.out w3 hg3; obtain ⟨X3, R3⟩ := hx3.out w3 B3; have T3 := Tq.out.named hg3 ho3 hat3; have n3 : N0 ≤ w3.heap.size := Nat.le_trans hN B3.size; obtain ⟨A3, c3, rfl, hc3, hrow3⟩ := ho3.row; obtain ⟨p0, p1, p2, p3, p4, p5, p6, p7, p8, p9, p10, p11, pf⟩ := box12 H3; have lb3 := box_lt H3; replace T3 := Q.mk T3; replace H3 := Q.mk H3; replace R3 := Q.mk R3; clear ho3 hg3 hat3 hrow3; obtain ⟨b3, o3, y3, Ay, cy, hbo, hbN3, hy3, hyOk, y0, _⟩ := X3.atE zn hzn; obtain ⟨rfl, rfl⟩ : b2 = b3 ∧ o2 = o3 := (by simpa using hbo); rw [hyy.out] at hy3; subst hy3; clear hbo hyOk X3)
                go_ret2
                exact ⟨B3, .inr ⟨HB.out, rfl⟩⟩
              have td := once_more hrn.symm
              have hon : Q (onceP nm r.p = namesP rs (m + 1)) := ⟨by rw [once_app hrn.symm, hNk.out]⟩
              clear hrn
              cases hrv : rightB r.v
              · have HB := Q.mk (bad.out (fun h => by rw [hrv] at h; cases h.2.2.2))
                replace hrv := Q.mk hrv
                clear k1 k2 hokr bad hlastq hyl
                go_wp2_with (first
                    | (go_at_call 71; refine ARM.out.mono ?_; rintro e3 w3 ⟨v2, rfl, ho3, hg3, hat3⟩; obtain ⟨B3, H3⟩ := hgn.out w3 hg3; obtain ⟨X3, R3⟩ := hx3.out w3 B3; have T3 := Tq.out.named hg3 ho3 hat3; have n3 : N0 ≤ w3.heap.size := Nat.le_trans hN B3.size; obtain ⟨A3, c3, rfl, hc3, hrow3⟩ := ho3.row; obtain ⟨p0, p1, p2, p3, p4, p5, p6, p7, p8, p9, p10, p11, pf⟩ := box12 H3; have lb3 := box_lt H3; replace T3 := Q.mk T3; replace H3 := Q.mk H3; replace R3 := Q.mk R3; clear ho3 hg3 hat3 hrow3; obtain ⟨b3, o3, y3, Ay, cy, hbo, hbN3, hy3, hyOk, y0, _⟩ := X3.atE zn hzn; obtain ⟨rfl, rfl⟩ : b2 = b3 ∧ o2 = o3 := (by simpa using hbo); rw [hyy.out] at hy3; subst hy3; clear hbo hyOk X3)
                    | (go_at_call 80; refine (Right_ref r.v Ar cr B0 N0 _ htx.out R3.out.v n3).mono ?_; rw [hrv.out]; rintro e5 w5 ⟨rfl, hb5⟩; obtain ⟨hcc5, hff5, z5⟩ := bcell hb5))
                go_ret2
                exact ⟨B3.trans (hb5.mono B3.size), .inr ⟨HB.out, rfl⟩⟩
              · have HOK := Q.mk (hokr.out.2 ⟨k2, hlastq.out.2 ⟨by omega, y, hyl, k1⟩, rfl, hrv⟩)
                replace hrv := Q.mk hrv
                clear k1 k2 hokr bad hlastq hyl
                go_wp2_with (first
                    | (go_at_call 71; refine ARM.out.mono ?_; rintro e3 w3 ⟨v2, rfl, ho3, hg3, hat3⟩; obtain ⟨B3, H3⟩ := hgn.out w3 hg3; obtain ⟨X3, R3⟩ := hx3.out w3 B3; have T3 := Tq.out.named hg3 ho3 hat3; have n3 : N0 ≤ w3.heap.size := Nat.le_trans hN B3.size; obtain ⟨A3, c3, rfl, hc3, hrow3⟩ := ho3.row; obtain ⟨p0, p1, p2, p3, p4, p5, p6, p7, p8, p9, p10, p11, pf⟩ := box12 H3; have lb3 := box_lt H3; replace T3 := Q.mk T3; replace H3 := Q.mk H3; replace R3 := Q.mk R3; clear ho3 hg3 hat3 hrow3; obtain ⟨b3, o3, y3, Ay, cy, hbo, hbN3, hy3, hyOk, y0, _⟩ := X3.atE zn hzn; obtain ⟨rfl, rfl⟩ : b2 = b3 ∧ o2 = o3 := (by simpa using hbo); rw [hyy.out] at hy3; subst hy3; clear hbo hyOk X3)
                    | (go_at_call 80; refine (Right_ref r.v Ar cr B0 N0 _ htx.out R3.out.v n3).mono ?_; rw [hrv.out]; rintro e5 w5 ⟨rfl, hb5⟩; obtain ⟨hcc5, hff5, z5⟩ := bcell hb5)
                    | (go_at_call 74; refine (event_ref r Ar cr B0 N0 _ (R3.out.below hb5 n3) (Nat.le_trans n3 z5)).mono ?_; rintro e6 w6 ⟨A6, c6, rfl, hv6, hb6⟩; replace hv6 := Q.mk hv6; have z6 := hb6.size)
                    | (at_builtin; refine wpList_appendT w5 _ rfl (.tmp 86) (.tmp 89) 22 rfl Try.underlying22 infoE rfl (B1 := B0) (N' := w6.heap.size) (y := r) (H := w6.heap.size) (by rfl) (by rfl) (heap_alloc_at _ _ rfl) (T3.out.below hb5 (Nat.le_refl _)) (hb6.alloc z6 _) (hv6.out.elim (fun h => .inl ⟨A6, c6, h.alloc (Nat.le_trans n3 (Nat.le_trans z5 z6)) _, rfl⟩) (fun h => .inr ⟨A6, c6, h.alloc (Nat.le_refl _) _, rfl⟩)) (by simp) hl7 ?_; intro g7 c7 w7 hT7 hg7))
                have s6 : w.heap.size ≤ w6.heap.size := Nat.le_trans B3.size (Nat.le_trans z5 z6)
                have B7 : Below w.heap.size w w7 := (((B3.trans (hb5.mono B3.size)).trans (hb6.mono (Nat.le_trans B3.size z5))).alloc s6 _).grown hg7 (Nat.le_trans s6 (by simp)) (fun g e => hul.out g e)
                go_roundw
                case rel => exact ⟨m + 1, by omega, by go_num, ⟨by rw [hTk.out, ← hon.out]; exact hT7⟩, ⟨fun m' h => by
                  rcases Nat.lt_or_ge m' m with h1 | h1
                  · exact hok.out m' h1
                  · obtain rfl : m' = m := by omega
                    exact HOK.out⟩, B7⟩
                case measure => simp [intOf]; omega
        · obtain rfl : m = rs.length := by omega
          have HF : Q (ransP l rs) := ⟨fun m' h => hok.out m' h⟩
          go_wp2_with fail
          go_ret2
          refine ⟨hB, .inl ⟨HF.out, _, rfl, ?_⟩⟩
          have h1 := hT.out.rowE
          rw [List.take_length] at h1
          exact h1
end Go.Proofs.Ytifakbipdmceiaa
