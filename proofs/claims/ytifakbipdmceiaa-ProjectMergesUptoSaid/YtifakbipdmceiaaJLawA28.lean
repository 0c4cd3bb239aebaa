import Derived.Test.YtifakbipdmceiaaJLawA15
import Derived.Test.YtifakbipdmceiaaJLawA27
import Derived.Test.YtifakbipdmceiaaJLawA17
set_option linter.unusedVariables false
set_option linter.unusedSimpArgs false
namespace Go.Proofs.Ytifakbipdmceiaa
open Go.RowKit Go.Maps Go.WideMaps

def lastF (l : List Ev) (s : ByteArray) : Nat → Option Int
  | 0 => none
  | k + 1 => match l[k]? with
    | none => lastF l s k
    | some e => if s = e.p then some (k : Int) else lastF l s k
def goneF (l rs : List Ev) (s : ByteArray) : Nat → Option Int
  | 0 => lastF l s l.length
  | m + 1 => match rs[m]? with
    | none => goneF l rs s m
    | some r => if s = r.p then none else goneF l rs s m
def okR (l rs : List Ev) (m : Nat) : Bool := match rs[m]? with
  | none => true
  | some r => (r.k == 2) && (match goneF l rs r.p m with
    | none => false
    | some i => (match l[i.toNat]? with | some e => e.k == 1 | none => false) && (match (callsP l)[i.toNat]? with | some t => decide (t < 0) | none => false)) && rightB r.v
def ansB (l rs : List Ev) : Bool := (List.range rs.length).all (okR l rs)
theorem lastF_lt (l : List Ev) (s : ByteArray) : ∀ (k : Nat) (i : Int), lastF l s k = some i → 0 ≤ i ∧ i < k
  | 0, i, h => by cases h
  | k + 1, i, h => by
    have ih := lastF_lt l s k i
    rw [lastF] at h
    split at h
    · have := ih h; omega
    · split at h
      · cases h; omega
      · have := ih h; omega
theorem goneF_lt (l rs : List Ev) (s : ByteArray) : ∀ (m : Nat) (i : Int), goneF l rs s m = some i → 0 ≤ i ∧ i < l.length
  | 0, i, h => lastF_lt l s _ i h
  | m + 1, i, h => by
    have ih := goneF_lt l rs s m i
    rw [goneF] at h
    split at h
    · exact ih h
    · split at h
      · cases h
      · exact ih h

set_option maxHeartbeats 4000000 in
set_option maxRecDepth 100000 in
theorem answered_any (l rs : List Ev) (A A' : Option Addr) (c c' B0 N0 : Nat) (w : World) (hx0 : Row eEl B0 N0 w A l) (hy0 : Row eEl B0 N0 w A' rs) (hN : N0 ≤ w.heap.size) (hcx : l.length ≤ c) (hcy : rs.length ≤ c') (hsum : (l.length + rs.length) * 144 ≤ 140737488355328) :
    Calls Try.prog 28 #[.slice A l.length c, .slice A' rs.length c'] w fun e w' => Below w.heap.size w w' ∧
      ((ansB l rs = true ∧ ∃ v, e = .returned (.tuple #[v, .int .i64 0]) ∧ Own eEl 37 w.heap.size w'.heap.size w' v (copyP l ++ copyP rs)) ∨ (ansB l rs = false ∧ e = .returned (.tuple #[.slice none 0 0, .int .i64 80]))) := by
  have hlen := hx0.lenE
  have hlr := hy0.lenE
  have hx := Q.mk hx0
  have hy := Q.mk hy0
  clear hx0 hy0
  have hmm := @run_makeMap Try.prog
  go_enter Try.func28, Try.ntmps28
  go_wp2_with (go_at_call 64; refine (calls_any l A c B0 N0 _ hx.out hN hcx).mono ?_; rintro e w1 ⟨g, rfl, hg, hgi, hb1⟩; replace hgi := Q.mk hgi)
  clear hmm
  have z1 := hb1.size
  have hgl := box_lt hgi.out
  have hcl := callsP_len l
  have M0 : Q (mapI (w1.alloc (.map #[] 0)) w1.heap.size 0 (.map [])) := ⟨World.ownsMap_made _ _ _ _⟩
  have G0 : Q ((w1.alloc (.map #[] 0)).heap[g]? = some (.cells (ints (callsP l)) 3 (0, 0))) := ⟨box_alloc hgi.out _⟩
  have BB : Below w.heap.size w (w1.alloc (.map #[] 0)) := hb1.alloc z1 _
  clear hb1 hgi
  go_loopw [20] (fun i wr => ∃ j : Nat, j ≤ l.length ∧ i = .int .i64 j ∧ Q (∃ D, Says D (fun s => lastF l s j) ∧ mapI wr w1.heap.size j D) ∧ Q (wr.heap[g]? = some (.cells (ints (callsP l)) 3 (0, 0))) ∧ Below w.heap.size w wr ∧ w1.heap.size < wr.heap.size)
    (fun i _ => l.length - (intOf i).toNat)
  case atStart => exact ⟨0, Nat.zero_le _, rfl, ⟨_, Says.empty, M0.out⟩, G0, BB, by simp⟩
  case round =>
    clear M0 G0 BB
    obtain ⟨j, hj, rfl, hM, hT, hB, hlb⟩ := hrel
    have hz := hB.size
    by_cases hlt : j < l.length
    · obtain ⟨b, o, e, Ae, ce, rfl, hbN, he, hEOk, x0, x1, x2, x3, x4, x5, x6, x7, x8, x9, x10, x11⟩ := (hx.out.below hB hN).atE j hlt
      have he1 : l[j]? = some e := by simp [hlt, he]
      obtain ⟨D, h1, h2⟩ := hM.out
      replace h1 := Q.mk h1
      replace h2 := Q.mk h2
      have HS : Q (∀ t, lastF l t (j + 1) = if t = e.p then some (j : Int) else lastF l t j) := ⟨fun t => by simp only [lastF, he1]⟩
      have hep := hEOk.p
      clear hM he he1 hEOk
      go_wp2_with (at_mapUpdate; refine wpList_mapUpdate_own _ rfl _ _ _ 103 rfl 9 3 lawS Try.underlying103 _ w1.heap.size j D rfl (h2.out.alloc _) (by unfold maxLen; omega) _ _ _ rfl rfl (keyL_ok hep) _ [] (plainElem_int Try.underlying3 (WalkArith.wf_i64 (by omega))) ?_; intro w2 hown1 hgrow1)
      have R1 : Q (∃ D, Says D (fun s => lastF l s (j + 1)) ∧ mapI w2 w1.heap.size (j + 1) D) := ⟨_, h1.out.put e.p j HS.out, hown1⟩
      have R2 : w2.heap[g]? = some (.cells (ints (callsP l)) 3 (0, 0)) := gbox hgrow1 (box_alloc hT.out _) (by omega)
      have R3 : Below w.heap.size w w2 := (hB.alloc hz _).grown hgrow1 (by simp; omega) (fun g e => by cases e; exact z1)
      have R4 := hgrow1.size
      simp only [World.size_alloc] at R4
      clear hown1 hgrow1
      go_wp2
      go_roundw
      case rel => exact ⟨j + 1, by omega, by go_num, R1, ⟨R2⟩, R3, by omega⟩
      case measure => simp [intOf]; omega
    · obtain rfl : j = l.length := by omega
      clear hlt hj
      go_wp2_with fail
      go_loopw [32] (fun i wr => ∃ m : Nat, m ≤ rs.length ∧ i = .int .i64 m ∧ Q (∀ q, q < m → okR l rs q = true) ∧ Q (∃ D, Says D (fun s => goneF l rs s m) ∧ mapI wr w1.heap.size l.length D) ∧ Q (wr.heap[g]? = some (.cells (ints (callsP l)) 3 (0, 0))) ∧ Below w.heap.size w wr ∧ w1.heap.size < wr.heap.size)
        (fun i _ => rs.length - (intOf i).toNat)
      case atStart => exact ⟨0, Nat.zero_le _, rfl, ⟨fun q hq => absurd hq (by omega)⟩, hM, hT, hB, hlb⟩
      case round =>
        clear hM hT hB hlb hz
        obtain ⟨m, hm, rfl, hOK, hM, hT, hB, hlb⟩ := hrel
        have hz := hB.size
        by_cases hlt : m < rs.length
        · obtain ⟨b, o, e, Ae, ce, rfl, hbN, he, hEOk, x0, x1, x2, x3, x4, x5, x6, x7, x8, x9, x10, x11⟩ := (hy.out.below hB hN).atE m hlt
          have he1 : rs[m]? = some e := by simp [hlt, he]
          obtain ⟨D, h1, h2⟩ := hM.out
          replace h1 := Q.mk h1
          replace h2 := Q.mk h2
          have HS : Q (∀ t, goneF l rs t (m + 1) = if t = e.p then none else goneF l rs t m) := ⟨fun t => by simp only [goneF, he1]⟩
          have hep := hEOk.p
          have hev := Q.mk hEOk.v
          have l1 : b < wr.heap.size := by omega
          have HO : Q (okR l rs m = ((e.k == 2) && (match goneF l rs e.p m with
              | none => false
              | some i => (match l[i.toNat]? with | some e => e.k == 1 | none => false) && (match (callsP l)[i.toNat]? with | some t => decide (t < 0) | none => false)) && rightB e.v)) := ⟨by rw [okR, he1]⟩
          have BAD : Q (okR l rs m = false → ansB l rs = false) := ⟨fun h => by rw [ansB, List.all_eq_false]; exact ⟨m, by simpa using hlt, by simp [h]⟩⟩
          clear hM he he1 hEOk
          cases k2 : (e.k == 2)
          · have k2' : (e.k != 2) = true := by rw [bne, k2]; rfl
            have HF : Q (ansB l rs = false) := ⟨BAD.out (by rw [HO.out]; rw [k2]; rfl)⟩
            clear HO BAD HS
            go_wp2_with (first | (at_lookup; refine wpList_lookup_own_ok_int _ rfl _ _ 103 rfl 9 3 .i64 lawS Try.underlying103 Try.underlying3 (zeroI _) w1.heap.size l.length D rfl (h2.out.alloc _) _ _ rfl (keyL_ok hep) ?_; intro ci hat hwc; clear hat hwc))
            go_ret2
            exact ⟨hB.alloc hz _, .inr ⟨HF.out, rfl⟩⟩
          have k2' : (e.k != 2) = false := by rw [bne, k2]; rfl
          cases ho : goneF l rs e.p m with
          | none =>
            have hh : Maps.has D (keyL e.p) = false := by rw [h1.out.has, ho]; rfl
            replace ho := Q.mk ho
            have HF : Q (ansB l rs = false) := ⟨BAD.out (by rw [HO.out]; rw [ho.out, k2]; rfl)⟩
            clear HO BAD HS
            go_wp2_with (first | (at_lookup; refine wpList_lookup_own_ok_int _ rfl _ _ 103 rfl 9 3 .i64 lawS Try.underlying103 Try.underlying3 (zeroI _) w1.heap.size l.length D rfl (h2.out.alloc _) _ _ rfl (keyL_ok hep) ?_; intro ci hat hwc; clear hat hwc; rw [hh]))
            go_ret2
            exact ⟨hB.alloc hz _, .inr ⟨HF.out, rfl⟩⟩
          | some i =>
            have hi := goneF_lt l rs e.p m i ho
            obtain ⟨q, rfl⟩ : ∃ q : Nat, i = q := ⟨i.toNat, by omega⟩
            have hq : q < l.length := by omega
            have hh : Maps.has D (keyL e.p) = true := by rw [h1.out.has, ho]; rfl
            have hv : Q (D.atKey (keyL e.p) (.lit (.int .i64 0)) = .lit (.int .i64 q)) := ⟨by rw [h1.out.at_, ho]; rfl⟩
            obtain ⟨b', o', e', Ae', ce', rfl, hbN', he', hEOk', y0, y1, y2, y3, y4, y5, y6, y7, y8, y9, y10, y11⟩ := (hx.out.below hB hN).atE q hq
            have l2 : b' < wr.heap.size := by omega
            have l3 : g < wr.heap.size := box_lt hT.out
            have hc0 := box_int hT.out q (by omega)
            obtain ⟨t, ht⟩ : ∃ t, t = (callsP l)[q]'(by omega) := ⟨_, rfl⟩
            rw [← ht] at hc0
            have HO2 : Q (okR l rs m = ((e'.k == 1) && decide (t < 0) && rightB e.v)) := ⟨by rw [HO.out, ho, k2]; simp [hq, he', hcl, ht]⟩
            replace ho := Q.mk ho
            clear HO ht hEOk' hi he'
            have HO := HO2
            clear HO2
            cases k1 : (e'.k == 1)
            · have k1' : (e'.k != 1) = true := by rw [bne, k1]; rfl
              have HF : Q (ansB l rs = false) := ⟨BAD.out (by rw [HO.out]; rw [k1]; rfl)⟩
              clear HO BAD HS
              go_wp2_with (first | (at_lookup; refine wpList_lookup_own_ok_int _ rfl _ _ 103 rfl 9 3 .i64 lawS Try.underlying103 Try.underlying3 (zeroI _) w1.heap.size l.length D rfl (h2.out.alloc _) _ _ rfl (keyL_ok hep) ?_; intro ci hat hwc; rw [hv.out] at hat; obtain rfl : (q : Int) = ci := (by simpa using hat); clear hat hwc; rw [hh]))
              go_ret2
              exact ⟨hB.alloc hz _, .inr ⟨HF.out, rfl⟩⟩
            have k1' : (e'.k != 1) = false := by rw [bne, k1]; rfl
            by_cases ht0 : t < 0
            · have t1 : ¬ 0 ≤ t := by omega
              have t2 : decide (0 ≤ t) = false := by simp; omega
              cases hrv : rightB e.v
              · replace hrv := Q.mk hrv
                have HF : Q (ansB l rs = false) := ⟨BAD.out (by rw [HO.out]; rw [k1, hrv.out]; simp)⟩
                clear HO BAD HS
                go_wp2_with (first | (at_lookup; refine wpList_lookup_own_ok_int _ rfl _ _ 103 rfl 9 3 .i64 lawS Try.underlying103 Try.underlying3 (zeroI _) w1.heap.size l.length D rfl (h2.out.alloc _) _ _ rfl (keyL_ok hep) ?_; intro ci hat hwc; rw [hv.out] at hat; obtain rfl : (q : Int) = ci := (by simpa using hat); clear hat hwc; rw [hh]) | (go_at_call 78; refine (check_v e.v Ae ce B0 N0 _ (hev.out.alloc (by omega) _) (by simp; omega)).mono ?_; rw [hrv.out]; rintro e5 w5 ⟨rfl, hb5⟩))
                go_ret2
                exact ⟨(hB.alloc hz _).trans (hb5.mono (by simp; omega)), .inr ⟨HF.out, rfl⟩⟩
              · have HG : Q (okR l rs m = true) := ⟨by rw [HO.out, k1, hrv]; simp [ht0]⟩
                replace hrv := Q.mk hrv
                clear HO BAD
                go_wp2_with (first | (at_lookup; refine wpList_lookup_own_ok_int _ rfl _ _ 103 rfl 9 3 .i64 lawS Try.underlying103 Try.underlying3 (zeroI _) w1.heap.size l.length D rfl (h2.out.alloc _) _ _ rfl (keyL_ok hep) ?_; intro ci hat hwc; rw [hv.out] at hat; obtain rfl : (q : Int) = ci := (by simpa using hat); clear hat hwc; rw [hh]) | (go_at_call 78; refine (check_v e.v Ae ce B0 N0 _ (hev.out.alloc (by omega) _) (by simp; omega)).mono ?_; rw [hrv.out]; rintro e5 w5 ⟨rfl, hb5⟩; have hsz5 := hb5.size; simp only [World.size_alloc] at hsz5; have p5 := hb5.box (heap_alloc_new wr _) (by simp); obtain ⟨v0, v1, v2, v3, v4, v5, v6, v7, v8, v9, v10, v11, vf⟩ := box12 p5; replace p5 := Q.mk p5) | (at_delete; refine wpList_delete_own _ rfl _ _ 103 9 rfl 3 lawS Try.underlying103 _ w1.heap.size l.length D rfl (mapI_below (h2.out.alloc _) hb5 (by simp; omega)) _ _ rfl (keyL_ok hep) ?_; intro w6 hown1 hturn1))
                have hgr := hturn1.grown
                have z6 := hgr.size
                have R1 : Q (∀ q, q < m + 1 → okR l rs q = true) := ⟨fun q hq => by rcases Nat.lt_or_ge q m with h | h; exact hOK.out q h; have : q = m := (by omega); subst this; exact HG.out⟩
                have R2 : w6.heap[g]? = some (.cells (ints (callsP l)) 3 (0, 0)) := gbox hgr (hb5.box (box_alloc hT.out _) (by simp; omega)) (by omega)
                have R3 : Below w.heap.size w w6 := ((hB.alloc hz _).trans (hb5.mono (by simp; omega))).grown hgr (by omega) (fun g e => by cases e; exact z1)
                go_roundw
                case rel => exact ⟨m + 1, by omega, by go_num, R1, ⟨_, h1.out.del e.p HS.out, hown1⟩, ⟨R2⟩, R3, by omega⟩
                case measure => simp [intOf]; omega
            · have t1 : 0 ≤ t := by omega
              have t2 : decide (0 ≤ t) = true := by simp; omega
              have HF : Q (ansB l rs = false) := ⟨BAD.out (by rw [HO.out]; rw [k1]; simp [ht0])⟩
              clear HO BAD HS
              go_wp2_with (first | (at_lookup; refine wpList_lookup_own_ok_int _ rfl _ _ 103 rfl 9 3 .i64 lawS Try.underlying103 Try.underlying3 (zeroI _) w1.heap.size l.length D rfl (h2.out.alloc _) _ _ rfl (keyL_ok hep) ?_; intro ci hat hwc; rw [hv.out] at hat; obtain rfl : (q : Int) = ci := (by simpa using hat); clear hat hwc; rw [hh]))
              go_ret2
              exact ⟨hB.alloc hz _, .inr ⟨HF.out, rfl⟩⟩
        · obtain rfl : m = rs.length := by omega
          have HF : Q (ansB l rs = true) := ⟨by rw [ansB, List.all_eq_true]; intro q hq; exact hOK.out q (by simpa using hq)⟩
          have s1 := selP_len (fun _ => true) l l.length
          have s2 := selP_len (fun _ => true) rs rs.length
          go_wp2_with (first
            | (go_at_call 65; with_reducible refine (those_d l A c B0 N0 _ (fun _ => true) (hx.out.below hB hN) (by omega) hcx (fun j w1 _ _ => Answered1_any _ _)).mono ?_; rintro e5 w5 ⟨v5, rfl, ho5, hb5⟩; replace ho5 := Q.mk ho5; have z5 := hb5.size)
            | (go_at_call 65; with_reducible refine (those_d rs A' c' B0 N0 _ (fun _ => true) ((hy.out.below hB hN).below hb5 (by omega)) (by omega) hcy (fun j w1 _ _ => Answered1_any _ _)).mono ?_; rintro e6 w6 ⟨v6, rfl, ho6, hb6⟩; replace ho6 := Q.mk ho6; have z6 := hb6.size)
            | (at_builtin; refine wpList_appendO _ rfl eEl (.tmp 77) (.tmp 80) 22 37 rfl Try.underlying22 infoE rfl w.heap.size (by rfl) (by rfl) (ho5.out.below hb6 (Nat.le_refl _)) ho6.out (Or.inl (Nat.le_refl _)) (by omega) (by omega) (by omega) (by decide) (by simp only [eEl, keepP]; omega) ?_; intro v7 w7 ho7 hg7))
          go_ret2
          have BW : Below w.heap.size w w7 := (ho5.out.below hb6 (Nat.le_refl _)).below_grown ((hB.trans (hb5.mono (by omega))).trans (hb6.mono (by omega))) hg7 (by omega) (by omega)
          exact ⟨BW, .inl ⟨HF.out, _, rfl, ho7⟩⟩
end Go.Proofs.Ytifakbipdmceiaa
