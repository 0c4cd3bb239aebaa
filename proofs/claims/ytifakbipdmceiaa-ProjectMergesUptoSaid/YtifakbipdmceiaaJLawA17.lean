import Derived.Test.YtifakbipdmceiaaJLawA13
import Derived.Test.YtifakbipdmceiaaJLawA16
section
set_option linter.unusedVariables false
set_option linter.unusedSimpArgs false
namespace Go.Proofs.Ytifakbipdmceiaa
open Go.RowKit

def sameEs : List Ev → List Ev → Bool
  | [], [] => true
  | x :: xs, y :: ys => sameE x y && sameEs xs ys
  | _, _ => false
theorem sameEs_len : ∀ (xs ys : List Ev), xs.length ≠ ys.length → sameEs xs ys = false
  | [], [], h => absurd rfl h
  | [], _ :: _, _ => rfl
  | _ :: _, [], _ => rfl
  | x :: xs, y :: ys, h => by simp [sameEs, sameEs_len xs ys (by simpa using h)]
theorem sameEs_step (xs ys : List Ev) (j : Nat) (h : j < xs.length) (h' : j < ys.length) : sameEs (xs.drop j) (ys.drop j) = (sameE xs[j] ys[j] && sameEs (xs.drop (j + 1)) (ys.drop (j + 1))) := by
  rw [List.drop_eq_getElem_cons h, List.drop_eq_getElem_cons h', sameEs]

set_option maxHeartbeats 2000000 in
set_option maxRecDepth 100000 in
theorem EqualFuncE_any (xs ys : List Ev) (A A' : Option Addr) (c c' B0 N0 : Nat) (w : World) (hx0 : Row eEl B0 N0 w A xs) (hy0 : Row eEl B0 N0 w A' ys) (hN : N0 ≤ w.heap.size) :
    Calls Try.prog 114 #[.slice A xs.length c, .slice A' ys.length c', .func (.func 115) #[] #[]] w fun e w' => e = .returned (.bool (sameEs xs ys)) ∧ Below w.heap.size w w' := by
  have hlx := hx0.lenE
  have hly := hy0.lenE
  have hx := Q.mk hx0
  have hy := Q.mk hy0
  clear hx0 hy0
  by_cases hn : xs.length = ys.length
  · have hn' : ((xs.length : Int) != (ys.length : Int)) = false := by simp [hn]
    have hn1 : xs.length ≤ ys.length := by omega
    have hn2 : ys.length ≤ xs.length := by omega
    clear hn
    obtain ⟨r, hr⟩ : ∃ r, r = sameEs xs ys := ⟨_, rfl⟩
    rw [← hr]
    replace hr := Q.mk hr
    go_enter Try.func114, Try.ntmps114
    go_wp2_with fail
    clear hn'
    go_loopw [17] (fun i wr => ∃ j : Nat, j ≤ xs.length ∧ i = .int .i64 j ∧ Q (r = sameEs (xs.drop j) (ys.drop j)) ∧ Below w.heap.size w wr) (fun i _ => xs.length - (intOf i).toNat)
    case atStart => exact ⟨0, Nat.zero_le _, rfl, hr, Below.refl _ _⟩
    case round =>
      obtain ⟨j, hj, rfl, hR, hB⟩ := hrel
      have hz := hB.size
      by_cases hlt : j < xs.length
      · have hlt' : j < ys.length := by omega
        obtain ⟨b, o, x, Ax, cx, rfl, hbN, hex, hEx, x0, x1, x2, x3, x4, x5, x6, x7, x8, x9, x10, x11⟩ := (hx.out.below hB hN).atE j hlt
        obtain ⟨b', o', y, Ay, cy, rfl, hbN', hey, hEy, y0, y1, y2, y3, y4, y5, y6, y7, y8, y9, y10, y11⟩ := (hy.out.below hB hN).atE j hlt'
        have HS := hR.out
        rw [sameEs_step xs ys j hlt hlt', hex, hey] at HS
        replace HS := Q.mk HS
        replace hEx := Q.mk hEx
        replace hEy := Q.mk hEy
        have l1 : b' < wr.heap.size := by omega
        clear hex hey hR
        cases hs : sameE x y
        · have HR : Q (r = false) := ⟨by rw [HS.out, hs]; rfl⟩
          replace hs := Q.mk hs
          go_wp2_with (go_at_call 115; refine (Same1_any x y Ax Ay cx cy B0 N0 _ ((hEx.out.alloc (by omega) _).alloc (by simp; omega) _) ((hEy.out.alloc (by omega) _).alloc (by simp; omega) _) (by simp; omega)).mono ?_; rw [hs.out]; rintro e w2 ⟨rfl, hb2⟩)
          go_ret
          exact ⟨by rw [HR.out]; rfl, ((hB.alloc hz _).alloc (by simp; omega) _).trans (hb2.mono (by simp; omega))⟩
        · have HR : Q (r = sameEs (xs.drop (j + 1)) (ys.drop (j + 1))) := ⟨by rw [HS.out, hs]; rfl⟩
          replace hs := Q.mk hs
          go_wp2_with (go_at_call 115; refine (Same1_any x y Ax Ay cx cy B0 N0 _ ((hEx.out.alloc (by omega) _).alloc (by simp; omega) _) ((hEy.out.alloc (by omega) _).alloc (by simp; omega) _) (by simp; omega)).mono ?_; rw [hs.out]; rintro e w2 ⟨rfl, hb2⟩)
          go_roundw
          case rel => exact ⟨j + 1, by omega, by go_num, HR, ((hB.alloc hz _).alloc (by simp; omega) _).trans (hb2.mono (by simp; omega))⟩
          case measure => simp [intOf]; omega
      · have HR : Q (r = true) := ⟨by rw [hR.out, List.drop_eq_nil_of_le (by omega), List.drop_eq_nil_of_le (by omega)]; rfl⟩
        go_wp2
        go_ret
        exact ⟨by rw [HR.out]; rfl, hB⟩
  · have hn' : (xs.length != ys.length) = true := by simp [hn]
    rw [sameEs_len xs ys hn]
    replace hn := Q.mk hn
    go_enter Try.func114, Try.ntmps114
    go_wp2
    go_ret
    exact ⟨rfl, Below.refl _ _⟩

theorem Same_any (xs ys : List Ev) (A A' : Option Addr) (c c' B0 N0 : Nat) (w : World) (hx0 : Row eEl B0 N0 w A xs) (hy0 : Row eEl B0 N0 w A' ys) (hN : N0 ≤ w.heap.size) :
    Calls Try.prog 82 #[.slice A xs.length c, .slice A' ys.length c'] w fun e w' => e = .returned (.bool (sameEs xs ys)) ∧ Below w.heap.size w w' := by
  have hx := Q.mk hx0
  have hy := Q.mk hy0
  clear hx0 hy0
  go_enter Try.func82, Try.ntmps82
  go_wp2_with (go_at_call 114; refine (EqualFuncE_any xs ys A A' c c' B0 N0 _ hx.out hy.out hN).mono ?_; rintro e w2 ⟨rfl, hb2⟩)
  go_ret
  exact ⟨rfl, hb2⟩
end Go.Proofs.Ytifakbipdmceiaa
end
section
set_option linter.unusedVariables false
set_option linter.unusedSimpArgs false
namespace Go.Proofs.Ytifakbipdmceiaa
open Go.RowKit

theorem toF_lt (l : List Ev) : ∀ k, k ≤ l.length → ∀ t ∈ toF l k, t < l.length
  | 0, _, t, ht => by
    simp only [toF, List.mem_replicate] at ht
    omega
  | k + 1, hk, t, ht => by
    have ih := toF_lt l k (by omega)
    rw [toF] at ht
    rw [show l[k]? = some l[k] by simp] at ht
    have st : ∀ (xs : List Int) (i : Nat) (x : Int), (∀ t ∈ xs, t < l.length) → x < l.length → ∀ t ∈ xs.set i x, t < l.length := by
      intro xs i x h1 h2 t ht
      rcases List.mem_or_eq_of_mem_set ht with h | h
      · exact h1 t h
      · omega
    simp only at ht
    split at ht
    · cases ho : opn l l[k].p k with
      | none => rw [ho] at ht; exact st _ _ _ ih (by omega) t ht
      | some i =>
        have := opn_lt l _ k i ho
        rw [ho] at ht
        exact st _ _ _ (st _ _ _ (st _ _ _ ih (by omega)) (by omega)) (by omega) t ht
    · exact st _ _ _ ih (by omega) t ht
theorem callsP_lt (l : List Ev) : ∀ t ∈ callsP l, t < l.length := toF_lt l _ (Nat.le_refl _)
theorem callsP_len (l : List Ev) : (callsP l).length = l.length := toF_len l _

def objectP (l : List Ev) (name : ByteArray) : List Ev := keepP (objB l (callsP l) name) l
def procP (l : List Ev) (name : ByteArray) : List Ev := keepP (procB l name) l
def wholeP (l : List Ev) : List Ev := keepP (wholeB l (callsP l)) l
def copyP (l : List Ev) : List Ev := keepP (fun _ => true) l

set_option maxHeartbeats 1000000 in
set_option maxRecDepth 100000 in
theorem proc_any (l : List Ev) (A : Option Addr) (c B0 N0 : Nat) (name : ByteArray) (w : World) (hr0 : Row eEl B0 N0 w A l) (hN : N0 ≤ w.heap.size) (hc : l.length ≤ c) :
    Calls Try.prog 16 #[.slice A l.length c, .string name] w fun e w' => ∃ v, e = .returned v ∧ Own eEl 37 w.heap.size w'.heap.size w' v (procP l name) ∧ Below w.heap.size w w' := by
  have hr := Q.mk hr0
  clear hr0
  obtain ⟨W0, hW0, b0, b1, BB, Z⟩ := boxes2 w (.cells #[.slice A l.length c] 22) (.cells #[.string name] 9)
  have p0 := box_cells b0.out 0
  have p1 := box_cells b1.out 0
  have H0 : Q (∀ (j : Nat) (w1 : World), j < l.length → Below W0.heap.size W0 w1 → Calls Try.prog 67 #[.int .i64 j, .pointer (some ⟨w.heap.size, 0, none⟩), .pointer (some ⟨w.heap.size + 1, 0, none⟩)] w1 fun e w2 => e = .returned (.bool (procB l name j)) ∧ Below w1.heap.size w1 w2) :=
    ⟨fun j w1 hj hb1 => Proc1_any l A c B0 N0 name j _ _ w1 ((hr.out.below BB hN).below hb1 (by omega)) (by have := hb1.size; omega) hj (box_cells (hb1.box b0.out (by omega)) 0) (box_cells (hb1.box b1.out (by omega)) 0)⟩
  go_enter Try.func16, Try.ntmps16
  go_wp2_with (go_at_call 65; rw [← hW0]; refine (those_b l A c B0 N0 _ _ _ (procB l name) (hr.out.below BB hN) (by omega) hc H0.out).mono ?_; rintro e w2 ⟨v, rfl, ho, hb⟩; replace ho := Q.mk ho)
  go_ret
  exact ⟨_, rfl, ho.out.low (by omega), BB.trans (hb.mono (by omega))⟩

set_option maxHeartbeats 1000000 in
set_option maxRecDepth 100000 in
theorem object_any (l : List Ev) (A : Option Addr) (c B0 N0 : Nat) (name : ByteArray) (w : World) (hr0 : Row eEl B0 N0 w A l) (hN : N0 ≤ w.heap.size) (hc : l.length ≤ c) :
    Calls Try.prog 15 #[.slice A l.length c, .string name] w fun e w' => ∃ v, e = .returned v ∧ Own eEl 37 w.heap.size w'.heap.size w' v (objectP l name) ∧ Below w.heap.size w w' := by
  have hr := Q.mk hr0
  clear hr0
  obtain ⟨W0, hW0, b0, b1, BB, Z⟩ := boxes2 w (.cells #[.slice A l.length c] 22) (.cells #[.string name] 9)
  have p0 := box_cells b0.out 0
  have p1 := box_cells b1.out 0
  have HC : Q (Calls Try.prog 64 #[.slice A l.length c] W0 fun e w' => ∃ g, e = .returned (.slice (some ⟨g, 0, none⟩) l.length l.length) ∧ W0.heap.size ≤ g ∧ w'.heap[g]? = some (.cells (ints (callsP l)) 3 (0, 0)) ∧ Below W0.heap.size W0 w') :=
    ⟨calls_any l A c B0 N0 W0 (hr.out.below BB hN) (by omega) hc⟩
  have H0 : Q (∀ (g : Nat) (w2 w3 w1 : World) (j : Nat), w2.heap[g]? = some (.cells (ints (callsP l)) 3 (0, 0)) → Below W0.heap.size W0 w2 → w3 = w2.alloc (.cells #[.slice (some ⟨g, 0, none⟩) l.length l.length] 82) → j < l.length → Below w3.heap.size w3 w1 →
      Calls Try.prog 66 #[.int .i64 j, .pointer (some ⟨w.heap.size, 0, none⟩), .pointer (some ⟨w.heap.size + 1, 0, none⟩), .pointer (some ⟨w2.heap.size, 0, none⟩)] w1 fun e w4 => e = .returned (.bool (objB l (callsP l) name j)) ∧ Below w1.heap.size w1 w4) := by
    refine ⟨fun g w2 w3 w1 j hg hb2 h3 hj hb1 => ?_⟩
    have hz2 := hb2.size
    have hz1 := hb1.size
    have hgl := box_lt hg
    subst h3
    simp only [World.size_alloc] at hz1
    have c1 := hb1.box (box_alloc (hb2.box b0.out (by omega)) _) (by simp; omega)
    have c2 := hb1.box (box_alloc (hb2.box b1.out (by omega)) _) (by simp; omega)
    have c3 := hb1.box (heap_alloc_new w2 (.cells #[.slice (some ⟨g, 0, none⟩) l.length l.length] 82)) (by simp)
    have c4 := hb1.box (box_alloc hg _) (by simp; omega)
    exact Object1_any l (callsP l) A c B0 N0 name j _ _ _ g l.length w1 ((((hr.out.below BB hN).below hb2 (by omega)).alloc (by omega) _).below hb1 (by simp; omega)) (by omega) hj (callsP_len l) hj (callsP_lt l) (by omega) (by omega) (by omega) (by omega)
      (box_cells c1 0) (box_cells c3 0) (box_cells c2 0) ⟨c4⟩
  go_enter Try.func15, Try.ntmps15
  go_wp2_with (first
    | (go_at_call 64; rw [← hW0]; clear hW0; refine HC.out.mono ?_; rintro e w2 ⟨g, rfl, hgl, hg, hb2⟩; replace hg := Q.mk hg; have hsz2 := hb2.size; have p2 := box_cells (hb2.box b0.out (by omega)) 0; have l2 : w.heap.size < w2.heap.size := (by omega))
    | (go_at_call 65; refine (those_a l A c B0 N0 _ _ _ _ (objB l (callsP l) name) (((hr.out.below BB hN).below hb2 (by omega)).alloc (by omega) _) (by simp; omega) hc (fun j w1 hj hb1 => H0.out g w2 _ w1 j hg.out hb2 rfl hj hb1)).mono ?_; rintro e w4 ⟨v, rfl, ho, hb⟩; replace ho := Q.mk ho))
  go_ret
  exact ⟨_, rfl, ho.out.low (by simp; omega), ((BB.trans (hb2.mono (by omega))).alloc (by omega) _).trans (hb.mono (by simp; omega))⟩

set_option maxHeartbeats 1000000 in
set_option maxRecDepth 100000 in
theorem whole_any (l : List Ev) (A : Option Addr) (c B0 N0 : Nat) (w : World) (hr0 : Row eEl B0 N0 w A l) (hN : N0 ≤ w.heap.size) (hc : l.length ≤ c) :
    Calls Try.prog 17 #[.slice A l.length c] w fun e w' => ∃ v, e = .returned v ∧ Own eEl 37 w.heap.size w'.heap.size w' v (wholeP l) ∧ Below w.heap.size w w' := by
  have hr := Q.mk hr0
  clear hr0
  obtain ⟨W0, hW0, b0, BB, Z⟩ := boxes1 w (.cells #[.slice A l.length c] 22)
  have p0 := box_cells b0.out 0
  have HC : Q (Calls Try.prog 64 #[.slice A l.length c] W0 fun e w' => ∃ g, e = .returned (.slice (some ⟨g, 0, none⟩) l.length l.length) ∧ W0.heap.size ≤ g ∧ w'.heap[g]? = some (.cells (ints (callsP l)) 3 (0, 0)) ∧ Below W0.heap.size W0 w') :=
    ⟨calls_any l A c B0 N0 W0 (hr.out.below BB hN) (by omega) hc⟩
  have H0 : Q (∀ (g : Nat) (w2 w3 w1 : World) (j : Nat), w2.heap[g]? = some (.cells (ints (callsP l)) 3 (0, 0)) → Below W0.heap.size W0 w2 → w3 = w2.alloc (.cells #[.slice (some ⟨g, 0, none⟩) l.length l.length] 82) → j < l.length → Below w3.heap.size w3 w1 →
      Calls Try.prog 68 #[.int .i64 j, .pointer (some ⟨w2.heap.size, 0, none⟩), .pointer (some ⟨w.heap.size, 0, none⟩)] w1 fun e w4 => e = .returned (.bool (wholeB l (callsP l) j)) ∧ Below w1.heap.size w1 w4) := by
    refine ⟨fun g w2 w3 w1 j hg hb2 h3 hj hb1 => ?_⟩
    have hz2 := hb2.size
    have hz1 := hb1.size
    have hgl := box_lt hg
    subst h3
    simp only [World.size_alloc] at hz1
    have c1 := hb1.box (box_alloc (hb2.box b0.out (by omega)) _) (by simp; omega)
    have c3 := hb1.box (heap_alloc_new w2 (.cells #[.slice (some ⟨g, 0, none⟩) l.length l.length] 82)) (by simp)
    have c4 := hb1.box (box_alloc hg _) (by simp; omega)
    exact Whole1_any l (callsP l) A c B0 N0 j _ _ g l.length w1 ((((hr.out.below BB hN).below hb2 (by omega)).alloc (by omega) _).below hb1 (by simp; omega)) (by omega) hj (callsP_len l) hj
      (box_cells c1 0) (box_cells c3 0) ⟨c4⟩
  go_enter Try.func17, Try.ntmps17
  go_wp2_with (first
    | (go_at_call 64; rw [← hW0]; clear hW0; refine HC.out.mono ?_; rintro e w2 ⟨g, rfl, hgl, hg, hb2⟩; replace hg := Q.mk hg; have hsz2 := hb2.size; have p2 := box_cells (hb2.box b0.out (by omega)) 0; have l2 : w.heap.size < w2.heap.size := (by omega))
    | (go_at_call 65; refine (those_c l A c B0 N0 _ _ _ (wholeB l (callsP l)) (((hr.out.below BB hN).below hb2 (by omega)).alloc (by omega) _) (by simp; omega) hc (fun j w1 hj hb1 => H0.out g w2 _ w1 j hg.out hb2 rfl hj hb1)).mono ?_; rintro e w4 ⟨v, rfl, ho, hb⟩; replace ho := Q.mk ho))
  go_ret
  exact ⟨_, rfl, ho.out.low (by simp; omega), ((BB.trans (hb2.mono (by omega))).alloc (by omega) _).trans (hb.mono (by simp; omega))⟩
end Go.Proofs.Ytifakbipdmceiaa
end
section
set_option linter.unusedVariables false
set_option linter.unusedSimpArgs false
namespace Go.Proofs.Ytifakbipdmceiaa
open Go.RowKit

def alikeB (a b : List Ev) (s : ByteArray) : Bool := inS s (procsP b) && sameEs (procP a s) (procP b s)
def alikeP (a b : List Ev) : Bool := decide ((procsP a).length = (procsP b).length) && (procsP a).all (alikeB a b)

set_option maxHeartbeats 4000000 in
set_option maxRecDepth 100000 in
theorem alike_any (xs ys : List Ev) (A A' : Option Addr) (c c' B0 N0 : Nat) (w : World) (hx0 : Row eEl B0 N0 w A xs) (hy0 : Row eEl B0 N0 w A' ys) (hN : N0 ≤ w.heap.size) (hcx : xs.length ≤ c) (hcy : ys.length ≤ c') :
    Calls Try.prog 31 #[.slice A xs.length c, .slice A' ys.length c'] w fun e w' => e = .returned (.bool (alikeP xs ys)) ∧ Below w.heap.size w w' := by
  obtain ⟨r, hr⟩ : ∃ r, r = alikeP xs ys := ⟨_, rfl⟩
  rw [← hr]
  simp only [alikeP] at hr
  obtain ⟨p, hp⟩ : ∃ p, p = procsP xs := ⟨_, rfl⟩
  obtain ⟨q, hq⟩ : ∃ q, q = procsP ys := ⟨_, rfl⟩
  rw [← hp, ← hq] at hr
  have hx := Q.mk hx0
  have hy := Q.mk hy0
  replace hr := Q.mk hr
  replace hp := Q.mk hp
  replace hq := Q.mk hq
  clear hx0 hy0
  have arm1 : Q (Calls Try.prog 21 #[.slice A xs.length c] w fun e w' => ∃ v, e = .returned v ∧ Own sEl 9 w.heap.size w'.heap.size w' v p ∧ Below w.heap.size w w') := ⟨by rw [hp.out]; exact procs_any xs A c B0 N0 w hx.out hN hcx⟩
  have arm2 : Q (∀ w1 : World, Below w.heap.size w w1 → Calls Try.prog 21 #[.slice A' ys.length c'] w1 fun e w' => ∃ v, e = .returned v ∧ Own sEl 9 w1.heap.size w'.heap.size w' v q ∧ Below w1.heap.size w1 w') := ⟨fun w1 hb => by rw [hq.out]; exact procs_any ys A' c' B0 N0 w1 (hy.out.below hb hN) (by have := hb.size; omega) hcy⟩
  by_cases hn : p.length = q.length
  · have hn' : ((p.length : Int) != (q.length : Int)) = false := by simp [hn]
    have hn1 : p.length ≤ q.length := by omega
    have hn2 : q.length ≤ p.length := by omega
    have hR : Q (r = p.all (alikeB xs ys)) := ⟨by rw [hr.out]; simp [hn]⟩
    clear hn hr
    go_enter Try.func31, Try.ntmps31
    go_wp2_with (first
      | (go_at_call 21; with_reducible refine arm1.out.mono ?_; rintro e w1 ⟨v1, rfl, ho1, hb1⟩; obtain ⟨A1, c1, rfl, hc1, hr1⟩ := ho1.row; clear ho1; have hlp := hr1.lenS; replace hr1 := Q.mk hr1)
      | (go_at_call 21; with_reducible refine (arm2.out _ hb1).mono ?_; rintro e w2 ⟨v2, rfl, ho2, hb2⟩; obtain ⟨A2, c2, rfl, hc2, hr2⟩ := ho2.row; clear ho2; replace hr2 := Q.mk hr2))
    clear hn' arm1 arm2
    have z1 := hb1.size
    have z2 := hb2.size
    have BB : Below w.heap.size w w2 := hb1.trans (hb2.mono z1)
    have R1 : Q (Row sEl w.heap.size w1.heap.size w2 A1 p) := ⟨hr1.out.below hb2 (Nat.le_refl _)⟩
    clear hr1 hb1 hb2
    go_loopw [20] (fun i wr => ∃ j : Nat, j ≤ p.length ∧ i = .int .i64 j ∧ Q (r = (p.drop j).all (alikeB xs ys)) ∧ Below w2.heap.size w2 wr) (fun i _ => p.length - (intOf i).toNat)
    case atStart => exact ⟨0, Nat.zero_le _, rfl, hR, Below.refl _ _⟩
    case round =>
      clear hR
      obtain ⟨j, hj, rfl, hR, hB⟩ := hrel
      have hz := hB.size
      by_cases hlt : j < p.length
      · obtain ⟨b, o, rfl, hBb, hNb, hss, x0⟩ := (R1.out.below hB z2).atS j hlt
        obtain ⟨s, hs⟩ : ∃ s, s = p[j] := ⟨_, rfl⟩
        have HS := hR.out
        rw [List.drop_eq_getElem_cons hlt, List.all_cons, ← hs] at HS
        rw [← hs] at x0
        replace HS := Q.mk HS
        clear hR hs
        cases h1 : inS s q
        · have HR : Q (r = false) := ⟨by rw [HS.out, alikeB, ← hq.out, h1]; rfl⟩
          replace h1 := Q.mk h1
          go_wp2_with (go_at_call 81; refine (contains_row q s A2 c2 _ _ _ (hr2.out.below hB (Nat.le_refl _))).mono ?_; rw [h1.out]; rintro e3 w3 ⟨rfl, rfl⟩)
          go_ret
          exact ⟨by rw [HR.out]; rfl, BB.trans (hB.mono (by omega))⟩
        · cases h2 : sameEs (procP xs s) (procP ys s)
          all_goals
            replace h1 := Q.mk h1
            replace h2 := Q.mk h2
            go_wp2_with (first
              | (go_at_call 81; refine (contains_row q s A2 c2 _ _ _ (hr2.out.below hB (Nat.le_refl _))).mono ?_; rw [h1.out]; rintro e3 w3 ⟨rfl, rfl⟩)
              | (go_at_call 16; with_reducible refine (proc_any xs A c B0 N0 s _ ((hx.out.below BB hN).below hB (by omega)) (by omega) hcx).mono ?_; rintro e4 w4 ⟨v4, rfl, ho4, hb4⟩; obtain ⟨A4, c4, rfl, hc4, hr4⟩ := ho4.row; clear ho4; replace hr4 := Q.mk hr4)
              | (go_at_call 16; with_reducible refine (proc_any ys A' c' B0 N0 s _ (((hy.out.below BB hN).below hB (by omega)).below hb4 (by omega)) (by have := hb4.size; omega) hcy).mono ?_; rintro e5 w5 ⟨v5, rfl, ho5, hb5⟩; obtain ⟨A5, c5, rfl, hc5, hr5⟩ := ho5.row; clear ho5; replace hr5 := Q.mk hr5; have z4 := hb4.size; have z5 := hb5.size)
              | (go_at_call 82; refine (Same_any (procP xs s) (procP ys s) A4 A5 c4 c5 0 w5.heap.size _ ((hr4.out.below hb5 (by omega)).mono (by omega) (by omega)) (hr5.out.mono (by omega) (by omega)) (by omega)).mono ?_; rw [h2.out]; rintro e6 w6 ⟨rfl, hb6⟩))
          · have HR : Q (r = false) := ⟨by rw [HS.out, alikeB, ← hq.out, h1.out, h2.out]; rfl⟩
            go_ret
            exact ⟨by rw [HR.out]; rfl, (((BB.trans (hB.mono (by omega))).trans (hb4.mono (by omega))).trans (hb5.mono (by omega))).trans (hb6.mono (by omega))⟩
          · have HR : Q (r = (p.drop (j + 1)).all (alikeB xs ys)) := ⟨by rw [HS.out, alikeB, ← hq.out, h1.out, h2.out]; rfl⟩
            go_roundw
            case rel => exact ⟨j + 1, by omega, by go_num, HR, ((hB.trans (hb4.mono (by omega))).trans (hb5.mono (by omega))).trans (hb6.mono (by omega))⟩
            case measure => simp [intOf]; omega
      · have HR : Q (r = true) := ⟨by rw [hR.out, List.drop_eq_nil_of_le (by omega)]; rfl⟩
        go_wp2
        go_ret
        exact ⟨by rw [HR.out]; rfl, BB.trans (hB.mono (by omega))⟩
  · have hn' : ((p.length : Int) != (q.length : Int)) = true := by simp; omega
    have hR : Q (r = false) := ⟨by rw [hr.out]; simp [hn]⟩
    replace hn := Q.mk hn
    go_enter Try.func31, Try.ntmps31
    go_wp2_with (first
      | (go_at_call 21; with_reducible refine arm1.out.mono ?_; rintro e w1 ⟨v1, rfl, ho1, hb1⟩; obtain ⟨A1, c1, rfl, hc1, hr1⟩ := ho1.row; clear ho1; have hlp := hr1.lenS; replace hr1 := Q.mk hr1)
      | (go_at_call 21; with_reducible refine (arm2.out _ hb1).mono ?_; rintro e w2 ⟨v2, rfl, ho2, hb2⟩; obtain ⟨A2, c2, rfl, hc2, hr2⟩ := ho2.row; clear ho2; replace hr2 := Q.mk hr2))
    go_ret
    exact ⟨by rw [hR.out]; rfl, hb1.trans (hb2.mono hb1.size)⟩
end Go.Proofs.Ytifakbipdmceiaa
end
