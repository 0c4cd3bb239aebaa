import Derived.Test.YtifakbipdmceiaaJLawA15
import Derived.Test.YtifakbipdmceiaaJLawA3
section
set_option linter.unusedVariables false
set_option linter.unusedSimpArgs false
namespace Go.Proofs.Ytifakbipdmceiaa
open Go.RowKit

def sEl : El ByteArray where
  sz := 1
  by_ := 16
  R := fun B N w s cs => s.size ≤ 140737488355328 ∧ cs = [.string s]
  pos := by decide
  len := fun _ _ _ _ _ h => by obtain ⟨_, rfl⟩ := h; rfl
  one := fun _ _ _ v _ h => by obtain ⟨_, rfl⟩ := h; simp [Value.oneCell']
  loc := fun B N w v cs h w' hs => h
  mono := fun B N w v cs h B' N' hB hN => h
theorem infoS : (Try.prog.info? 9).map (fun i => (i.zero, i.size, i.bytes)) = some (some (.string ⟨#[]⟩), 1, 16) := by kernel_rfl
theorem Row.atS {B N : Nat} {w : World} {A : Option Addr} {xs : List ByteArray} (h : Row sEl B N w A xs) (j : Nat) (hj : j < xs.length) :
    ∃ (b o : Nat), A = some ⟨b, o, none⟩ ∧ B ≤ b ∧ b < N ∧ xs[j].size ≤ 140737488355328 ∧ w.cell? ⟨b, o + j, none⟩ = some (.string xs[j]) := by
  obtain ⟨b, o, cs, hA, hB, hN, ⟨hs, rfl⟩, hl, hc⟩ := h.at j hj
  exact ⟨b, o, hA, hB, hN, hs, by have := hc 0 _ rfl; simpa [sEl] using this⟩
theorem Row.lenS {B N : Nat} {w : World} {A : Option Addr} {xs : List ByteArray} (h : Row sEl B N w A xs) : xs.length * 16 ≤ 140737488355328 := h.1
def inS (x : ByteArray) (xs : List ByteArray) : Bool := xs.any fun y => decide (y = x)
theorem inS_iff (x : ByteArray) (xs : List ByteArray) : inS x xs = true ↔ x ∈ xs := by simp [inS]
theorem contains_row (xs : List ByteArray) (x : ByteArray) (A : Option Addr) (c B N : Nat) (w : World) (h : Row sEl B N w A xs) :
    Calls Try.prog 81 #[.slice A xs.length c, .string x] w fun e w' => e = .returned (.bool (inS x xs)) ∧ w' = w := by
  rcases List.eq_nil_or_concat xs with rfl | ⟨ys, y, hy⟩
  · exact (Try.slices_Contains_string_empty A c x w).mono (by rintro e w' ⟨rfl, rfl⟩; exact ⟨rfl, rfl⟩)
  · have hne : 0 < xs.length := by rw [hy]; simp
    obtain ⟨b, o, rfl, _⟩ := h.atS 0 hne
    refine (Try.slices_Contains_string b o xs.length c xs x w (Nat.le_refl _) (by have := h.lenS; omega) ?_).mono ?_
    · intro j hj
      obtain ⟨b', o', hb, _, _, _, hc⟩ := h.atS j hj
      obtain ⟨rfl, rfl⟩ : b = b' ∧ o = o' := by simpa using hb
      rw [hc]; simp [List.getD, hj]
    · rintro e w' ⟨rfl, rfl⟩
      refine ⟨?_, rfl⟩
      rw [List.take_length]
      congr 2
      rw [Bool.eq_iff_iff, Go.Lib.containsS_iff, inS_iff]

def selN (of : Ev → ByteArray × Bool) (l : List Ev) : Nat → List ByteArray
  | 0 => []
  | k + 1 => match l[k]? with
    | none => selN of l k
    | some e => if (of e).2 = true ∧ inS (of e).1 (selN of l k) = false then selN of l k ++ [(of e).1] else selN of l k
theorem selN_len (of : Ev → ByteArray × Bool) (l : List Ev) : ∀ k, (selN of l k).length ≤ k
  | 0 => by simp [selN]
  | k + 1 => by
    have := selN_len of l k
    rw [selN]
    split
    · omega
    · split <;> simp <;> omega
def objOf (e : Ev) : ByteArray × Bool := (e.o, e.k == 1)
def procOf (e : Ev) : ByteArray × Bool := (e.p, true)
def objectsP (l : List Ev) : List ByteArray := selN objOf l l.length
def procsP (l : List Ev) : List ByteArray := selN procOf l l.length

set_option maxHeartbeats 1000000 in
set_option maxRecDepth 100000 in
theorem names_objects (l : List Ev) (A : Option Addr) (c B0 N0 : Nat) (w : World) (hr0 : Row eEl B0 N0 w A l) (hN : N0 ≤ w.heap.size) (hc : l.length ≤ c) :
    Calls Try.prog 69 #[.slice A l.length c, .func (.func 70) #[] #[]] w fun e w' => ∃ v, e = .returned v ∧ Own sEl 9 w.heap.size w'.heap.size w' v (selN objOf l l.length) ∧ Below w.heap.size w w' := by
  have hlen := hr0.lenE
  have hr := Q.mk hr0
  clear hr0
  go_enter Try.func69, Try.ntmps69
  go_wp2_with fail
  go_loopw [5, 12] (fun u i wr => ∃ j : Nat, j ≤ l.length ∧ i = .int .i64 j ∧ Q (Own sEl 9 w.heap.size wr.heap.size wr u (selN objOf l j)) ∧ Below w.heap.size w wr)
    (fun _ i _ => l.length - (intOf i).toNat)
  case atStart => exact ⟨0, Nat.zero_le _, rfl, ⟨(Own.nil _ _ _ _)⟩, Below.refl _ _⟩
  case round =>
    obtain ⟨j, hj, rfl, hO, hB⟩ := hrel
    have hz := hB.size
    by_cases hlt : j < l.length
    · obtain ⟨b, o, e, Ae, ce, rfl, hbN, he, hEOk, x0, x1, x2, x3, x4, x5, x6, x7, x8, x9, x10, x11⟩ := (hr.out.below hB hN).atE j hlt
      have he1 : l[j]? = some e := by simp [hlt, he]
      have hsl := selN_len objOf l j
      have hsz := hEOk.o
      obtain ⟨A5, c5, rfl, hc5, hr5⟩ := hO.out.row
      obtain ⟨acc, hacc⟩ : ∃ acc, acc = selN objOf l j := ⟨_, rfl⟩
      have HN : selN objOf l (j + 1) = if (e.k == 1) = true ∧ inS e.o acc = false then acc ++ [e.o] else acc := by rw [selN, hacc, he1]; rfl
      rw [← hacc] at hO hsl hc5 hr5
      rw [← hacc]
      replace hr5 := Q.mk hr5
      clear he he1 hacc hEOk
      obtain ⟨bb, hbb⟩ : ∃ bb, bb = (e.k == 1) := ⟨_, rfl⟩
      obtain ⟨dd, hdd⟩ : ∃ dd, dd = inS e.o acc := ⟨_, rfl⟩
      rw [← hbb, ← hdd] at HN
      cases bb
      · first
        | exact absurd hbb (by decide)
        | (
            have HS : Q (selN objOf l (j + 1) = acc) := ⟨by rw [HN]; rfl⟩
            replace hbb := Q.mk hbb
            clear HN
            go_wp2_with (go_at_call 70; refine (Objects1_any e Ae ce _).mono ?_; rw [← hbb.out]; rintro e2 w2 ⟨rfl, hb2⟩)
            have hz2 := hb2.size
            simp only [World.size_alloc] at hz2
            go_roundw
            case rel => exact ⟨j + 1, by omega, by go_num, ⟨by rw [HS.out]; exact ((hO.out.alloc _).below hb2 (by simp)).widen (by omega) (Nat.le_refl _)⟩, (hB.alloc hz _).trans (hb2.mono (by simp; omega))⟩
            case measure => simp [intOf]; omega)
      · cases dd
        · have HS : Q (selN objOf l (j + 1) = acc ++ [e.o]) := ⟨by rw [HN]; rfl⟩
          replace hbb := Q.mk hbb
          replace hdd := Q.mk hdd
          clear HN
          go_wp2_with (first
            | (go_at_call 70; refine (Objects1_any e Ae ce _).mono ?_; rw [← hbb.out]; rintro e2 w2 ⟨rfl, hb2⟩)
            | (go_at_call 81; refine (contains_row acc e.o A5 c5 _ _ _ ((hr5.out.alloc (Nat.le_refl _) _).below hb2 (by simp))).mono ?_; rw [← hdd.out]; rintro e3 w3 ⟨rfl, rfl⟩)
            | (at_builtin; (refine wpList_append1 _ rfl sEl (.tmp 29) (.tmp 31) 26 9 rfl Try.underlying26 infoS rfl (B := w.heap.size) (N := wr.heap.size) (B' := wr.heap.size) (N' := wr.heap.size) (y := e.o) w.heap.size (by rfl) (by rfl) (heap_alloc_new _ _) (((hO.out.alloc _).below hb2 (by simp)).alloc _) ⟨hsz, rfl⟩ (Or.inl (Nat.le_refl _)) (by have := hb2.size; simp at this ⊢ <;> omega) (Nat.le_refl _) (by omega) (by have := hb2.size; simp at this ⊢ <;> omega) (by decide) (by simp [sEl]; omega) ?_); intro g1 c1 w4 hO4 hg4 hat4))
          have BW : Below w.heap.size w w4 := hO.out.below_grown (((hB.alloc hz _).trans (hb2.mono (by simp; omega))).alloc (by have := hb2.size; simp at this; omega) _) hg4 (Nat.le_refl _) (by have := hb2.size; simp at this ⊢ <;> omega)
          clear hg4 hat4
          go_roundw
          case rel => exact ⟨j + 1, by omega, by go_num, ⟨by rw [HS.out]; exact hO4⟩, BW⟩
          case measure => simp [intOf]; omega
        · have HS : Q (selN objOf l (j + 1) = acc) := ⟨by rw [HN]; rfl⟩
          replace hbb := Q.mk hbb
          replace hdd := Q.mk hdd
          clear HN
          go_wp2_with (first
            | (go_at_call 70; refine (Objects1_any e Ae ce _).mono ?_; rw [← hbb.out]; rintro e2 w2 ⟨rfl, hb2⟩)
            | (go_at_call 81; refine (contains_row acc e.o A5 c5 _ _ _ ((hr5.out.alloc (Nat.le_refl _) _).below hb2 (by simp))).mono ?_; rw [← hdd.out]; rintro e3 w3 ⟨rfl, rfl⟩))
          have hz2 := hb2.size
          simp only [World.size_alloc] at hz2
          go_roundw
          case rel => exact ⟨j + 1, by omega, by go_num, ⟨by rw [HS.out]; exact ((hO.out.alloc _).below hb2 (by simp)).widen (by omega) (Nat.le_refl _)⟩, (hB.alloc hz _).trans (hb2.mono (by simp; omega))⟩
          case measure => simp [intOf]; omega
    · go_wp2
      go_ret
      obtain rfl : j = l.length := by omega
      exact ⟨_, rfl, hO.out, hB⟩

theorem objects_any (l : List Ev) (A : Option Addr) (c B0 N0 : Nat) (w : World) (hr : Row eEl B0 N0 w A l) (hN : N0 ≤ w.heap.size) (hc : l.length ≤ c) :
    Calls Try.prog 19 #[.slice A l.length c] w fun e w' => ∃ v, e = .returned v ∧ Own sEl 9 w.heap.size w'.heap.size w' v (objectsP l) ∧ Below w.heap.size w w' := by
  replace hr := Q.mk hr
  go_enter Try.func19, Try.ntmps19
  go_wp2_with (go_at_call 69; refine (names_objects l A c B0 N0 w hr.out hN hc).mono ?_; rintro e w2 ⟨v, rfl, ho, hb⟩; replace ho := Q.mk ho)
  go_ret
  exact ⟨_, rfl, ho.out, hb⟩
set_option maxHeartbeats 1000000 in
set_option maxRecDepth 100000 in
theorem names_procs (l : List Ev) (A : Option Addr) (c B0 N0 : Nat) (w : World) (hr0 : Row eEl B0 N0 w A l) (hN : N0 ≤ w.heap.size) (hc : l.length ≤ c) :
    Calls Try.prog 69 #[.slice A l.length c, .func (.func 72) #[] #[]] w fun e w' => ∃ v, e = .returned v ∧ Own sEl 9 w.heap.size w'.heap.size w' v (selN procOf l l.length) ∧ Below w.heap.size w w' := by
  have hlen := hr0.lenE
  have hr := Q.mk hr0
  clear hr0
  go_enter Try.func69, Try.ntmps69
  go_wp2_with fail
  go_loopw [5, 12] (fun u i wr => ∃ j : Nat, j ≤ l.length ∧ i = .int .i64 j ∧ Q (Own sEl 9 w.heap.size wr.heap.size wr u (selN procOf l j)) ∧ Below w.heap.size w wr)
    (fun _ i _ => l.length - (intOf i).toNat)
  case atStart => exact ⟨0, Nat.zero_le _, rfl, ⟨(Own.nil _ _ _ _)⟩, Below.refl _ _⟩
  case round =>
    obtain ⟨j, hj, rfl, hO, hB⟩ := hrel
    have hz := hB.size
    by_cases hlt : j < l.length
    · obtain ⟨b, o, e, Ae, ce, rfl, hbN, he, hEOk, x0, x1, x2, x3, x4, x5, x6, x7, x8, x9, x10, x11⟩ := (hr.out.below hB hN).atE j hlt
      have he1 : l[j]? = some e := by simp [hlt, he]
      have hsl := selN_len procOf l j
      have hsz := hEOk.p
      obtain ⟨A5, c5, rfl, hc5, hr5⟩ := hO.out.row
      obtain ⟨acc, hacc⟩ : ∃ acc, acc = selN procOf l j := ⟨_, rfl⟩
      have HN : selN procOf l (j + 1) = if true = true ∧ inS e.p acc = false then acc ++ [e.p] else acc := by rw [selN, hacc, he1]; rfl
      rw [← hacc] at hO hsl hc5 hr5
      rw [← hacc]
      replace hr5 := Q.mk hr5
      clear he he1 hacc hEOk
      obtain ⟨bb, hbb⟩ : ∃ bb, bb = true := ⟨_, rfl⟩
      obtain ⟨dd, hdd⟩ : ∃ dd, dd = inS e.p acc := ⟨_, rfl⟩
      rw [← hbb, ← hdd] at HN
      cases bb
      · first
        | exact absurd hbb (by decide)
        | (
            have HS : Q (selN procOf l (j + 1) = acc) := ⟨by rw [HN]; rfl⟩
            replace hbb := Q.mk hbb
            clear HN
            go_wp2_with (go_at_call 72; refine (Procs1_any e Ae ce _).mono ?_; rw [← hbb.out]; rintro e2 w2 ⟨rfl, hb2⟩)
            have hz2 := hb2.size
            simp only [World.size_alloc] at hz2
            go_roundw
            case rel => exact ⟨j + 1, by omega, by go_num, ⟨by rw [HS.out]; exact ((hO.out.alloc _).below hb2 (by simp)).widen (by omega) (Nat.le_refl _)⟩, (hB.alloc hz _).trans (hb2.mono (by simp; omega))⟩
            case measure => simp [intOf]; omega)
      · cases dd
        · have HS : Q (selN procOf l (j + 1) = acc ++ [e.p]) := ⟨by rw [HN]; rfl⟩
          replace hbb := Q.mk hbb
          replace hdd := Q.mk hdd
          clear HN
          go_wp2_with (first
            | (go_at_call 72; refine (Procs1_any e Ae ce _).mono ?_; rw [← hbb.out]; rintro e2 w2 ⟨rfl, hb2⟩)
            | (go_at_call 81; refine (contains_row acc e.p A5 c5 _ _ _ ((hr5.out.alloc (Nat.le_refl _) _).below hb2 (by simp))).mono ?_; rw [← hdd.out]; rintro e3 w3 ⟨rfl, rfl⟩)
            | (at_builtin; (refine wpList_append1 _ rfl sEl (.tmp 29) (.tmp 31) 26 9 rfl Try.underlying26 infoS rfl (B := w.heap.size) (N := wr.heap.size) (B' := wr.heap.size) (N' := wr.heap.size) (y := e.p) w.heap.size (by rfl) (by rfl) (heap_alloc_new _ _) (((hO.out.alloc _).below hb2 (by simp)).alloc _) ⟨hsz, rfl⟩ (Or.inl (Nat.le_refl _)) (by have := hb2.size; simp at this ⊢ <;> omega) (Nat.le_refl _) (by omega) (by have := hb2.size; simp at this ⊢ <;> omega) (by decide) (by simp [sEl]; omega) ?_); intro g1 c1 w4 hO4 hg4 hat4))
          have BW : Below w.heap.size w w4 := hO.out.below_grown (((hB.alloc hz _).trans (hb2.mono (by simp; omega))).alloc (by have := hb2.size; simp at this; omega) _) hg4 (Nat.le_refl _) (by have := hb2.size; simp at this ⊢ <;> omega)
          clear hg4 hat4
          go_roundw
          case rel => exact ⟨j + 1, by omega, by go_num, ⟨by rw [HS.out]; exact hO4⟩, BW⟩
          case measure => simp [intOf]; omega
        · have HS : Q (selN procOf l (j + 1) = acc) := ⟨by rw [HN]; rfl⟩
          replace hbb := Q.mk hbb
          replace hdd := Q.mk hdd
          clear HN
          go_wp2_with (first
            | (go_at_call 72; refine (Procs1_any e Ae ce _).mono ?_; rw [← hbb.out]; rintro e2 w2 ⟨rfl, hb2⟩)
            | (go_at_call 81; refine (contains_row acc e.p A5 c5 _ _ _ ((hr5.out.alloc (Nat.le_refl _) _).below hb2 (by simp))).mono ?_; rw [← hdd.out]; rintro e3 w3 ⟨rfl, rfl⟩))
          have hz2 := hb2.size
          simp only [World.size_alloc] at hz2
          go_roundw
          case rel => exact ⟨j + 1, by omega, by go_num, ⟨by rw [HS.out]; exact ((hO.out.alloc _).below hb2 (by simp)).widen (by omega) (Nat.le_refl _)⟩, (hB.alloc hz _).trans (hb2.mono (by simp; omega))⟩
          case measure => simp [intOf]; omega
    · go_wp2
      go_ret
      obtain rfl : j = l.length := by omega
      exact ⟨_, rfl, hO.out, hB⟩

theorem procs_any (l : List Ev) (A : Option Addr) (c B0 N0 : Nat) (w : World) (hr : Row eEl B0 N0 w A l) (hN : N0 ≤ w.heap.size) (hc : l.length ≤ c) :
    Calls Try.prog 21 #[.slice A l.length c] w fun e w' => ∃ v, e = .returned v ∧ Own sEl 9 w.heap.size w'.heap.size w' v (procsP l) ∧ Below w.heap.size w w' := by
  replace hr := Q.mk hr
  go_enter Try.func21, Try.ntmps21
  go_wp2_with (go_at_call 69; refine (names_procs l A c B0 N0 w hr.out hN hc).mono ?_; rintro e w2 ⟨v, rfl, ho, hb⟩; replace ho := Q.mk ho)
  go_ret
  exact ⟨_, rfl, ho.out, hb⟩
end Go.Proofs.Ytifakbipdmceiaa
end
section
set_option linter.unusedVariables false
set_option linter.unusedSimpArgs false
namespace Go.Proofs.Ytifakbipdmceiaa
open Go.RowKit

def onceP (xs : List ByteArray) (s : ByteArray) : List ByteArray := if inS s xs = true then xs else xs ++ [s]
set_option maxHeartbeats 2000000 in
set_option maxRecDepth 100000 in
theorem once_ref (xs : List ByteArray) (s : ByteArray) (A : Option Addr) (c B N : Nat) (w : World) (hO0 : Own sEl 9 B N w (.slice A xs.length c) xs) (hBN : B ≤ N) (hB0 : B ≤ w.heap.size) (hc : xs.length ≤ c) (hs : s.size ≤ 140737488355328) (hl : (xs.length + 1) * 16 ≤ 140737488355328) :
    Calls Try.prog 71 #[.slice A xs.length c, .string s] w fun e w' => ∃ v2, e = .returned v2 ∧ Own sEl 9 B w'.heap.size w' v2 (onceP xs s) ∧ Below B w w' := by
  have hO := Q.mk hO0
  obtain ⟨A9, c9, h9, hc9, hr9⟩ := hO0.row
  cases h9
  have hr := Q.mk hr9
  have hN := hO0.1
  clear hO0 hr9
  obtain ⟨r, hr'⟩ : ∃ r, r = inS s xs := ⟨_, rfl⟩
  have hR0 : Q (r = inS s (xs.drop 0)) := ⟨by rw [hr']; rfl⟩
  replace hr' := Q.mk hr'
  go_enter Try.func71, Try.ntmps71
  go_wp2_with fail
  go_loop [5] (fun i => ∃ j : Nat, j ≤ xs.length ∧ i = .int .i64 j ∧ Q (r = inS s (xs.drop j))) (fun i => xs.length - (intOf i).toNat)
  case atStart => exact ⟨0, Nat.zero_le _, rfl, hR0⟩
  case round =>
    clear hR0
    obtain ⟨j, hj, rfl, hR⟩ := hrel
    by_cases hlt : j < xs.length
    · obtain ⟨b, o, rfl, hBb, hNb, hss, x0⟩ := hr.out.atS j hlt
      obtain ⟨y, hy⟩ : ∃ y, y = xs[j] := ⟨_, rfl⟩
      rw [← hy] at x0
      have HS := hR.out
      rw [List.drop_eq_getElem_cons hlt, ← hy, inS, List.any_cons] at HS
      cases h1 : decide (y = s)
      · have t1 : (y.toList == s.toList) = false := by rw [sEq, h1]
        have HR : Q (r = inS s (xs.drop (j + 1))) := ⟨by rw [HS, h1]; rfl⟩
        clear h1 HS hy
        go_wp2
        go_round
        case rel => exact ⟨j + 1, by omega, by go_num, HR⟩
        case measure => simp [intOf] <;> omega
      · have t1 : (y.toList == s.toList) = true := by rw [sEq, h1]
        have HR : Q (r = true) := ⟨by rw [HS, h1]; rfl⟩
        clear h1 HS hy
        go_wp2
        go_ret
        refine ⟨_, rfl, ?_, Below.refl _ _⟩
        rw [onceP, ← hr'.out, HR.out]
        exact hO.out.widen hN (Nat.le_refl _)
    · have HR : Q (r = false) := ⟨by rw [hR.out, List.drop_eq_nil_of_le (by omega)]; rfl⟩
      go_wp2_with (at_builtin; (refine wpList_append1 _ rfl sEl (.tmp 19) (.tmp 21) 26 9 rfl Try.underlying26 infoS rfl (B := B) (N := N) (B' := N) (N' := N) (y := s) B (by rfl) (by rfl) (heap_alloc_new _ _) (hO.out.alloc _) ⟨hs, rfl⟩ (Or.inl (Nat.le_refl _)) (by simp; omega) (Nat.le_refl _) hBN (by simp; omega) (by decide) (by simp only [sEl]; omega) ?_); intro g1 c1 w4 hO4 hg4 hat4)
      go_ret
      refine ⟨_, rfl, ?_, hO.out.below_grown ((Below.refl _ _).alloc hB0 _) hg4 (Nat.le_refl _) (by simp; omega)⟩
      rw [onceP, ← hr'.out, HR.out]
      exact hO4
end Go.Proofs.Ytifakbipdmceiaa
end
section
set_option linter.unusedVariables false
set_option linter.unusedSimpArgs false
namespace Go.Proofs.Ytifakbipdmceiaa
open Go.RowKit

theorem selN_step (of : Ev → ByteArray × Bool) (l : List Ev) (j : Nat) (hj : j < l.length) {e : Ev} (he : l[j] = e) : selN of l (j + 1) = if (of e).2 = true then onceP (selN of l j) (of e).1 else selN of l j := by
  rw [selN, show l[j]? = some e by simp [hj, he]]
  simp only [onceP]
  cases h1 : (of e).2 <;> cases h2 : inS (of e).1 (selN of l j) <;> simp
set_option maxHeartbeats 2000000 in
set_option maxRecDepth 100000 in
theorem Objects_ref (l : List Ev) (A : Option Addr) (c B0 N0 : Nat) (w : World) (hr0 : Row eEl B0 N0 w A l) (hN : N0 ≤ w.heap.size) (hc : l.length ≤ c) :
    Calls Try.prog 20 #[.slice A l.length c] w fun e w' => ∃ v, e = .returned v ∧ Own sEl 9 w.heap.size w'.heap.size w' v (objectsP l) ∧ Below w.heap.size w w' := by
  have hlen := hr0.lenE
  have hr := Q.mk hr0
  clear hr0
  go_enter Try.func20, Try.ntmps20
  go_wp2_with fail
  go_loopw [3, 4] (fun u i wr => ∃ j : Nat, j ≤ l.length ∧ i = .int .i64 j ∧ Q (Own sEl 9 w.heap.size wr.heap.size wr u (selN objOf l j)) ∧ Below w.heap.size w wr)
    (fun _ i _ => l.length - (intOf i).toNat)
  case atStart => exact ⟨0, Nat.zero_le _, rfl, ⟨(Own.nil _ _ _ _)⟩, Below.refl _ _⟩
  case round =>
    obtain ⟨j, hj, rfl, hO, hB⟩ := hrel
    have hz := hB.size
    by_cases hlt : j < l.length
    · obtain ⟨b, o, e, Ae, ce, rfl, hbN, he, hEOk, x0, x1, x2, x3, x4, x5, x6, x7, x8, x9, x10, x11⟩ := (hr.out.below hB hN).atE j hlt
      have hsl := selN_len objOf l j
      have HN := selN_step objOf l j hlt he
      have hsz := hEOk.o
      obtain ⟨A5, c5, rfl, hc5, hr5⟩ := hO.out.row
      obtain ⟨acc, hacc⟩ : ∃ acc, acc = selN objOf l j := ⟨_, rfl⟩
      rw [← hacc] at hO hsl hc5 HN
      rw [← hacc]
      clear he hacc hEOk hr5
      by_cases k1 : e.k = 1
      · have t1 : (e.k == 1) = true := by simp [k1]
        have HS : Q (selN objOf l (j + 1) = onceP acc e.o) := ⟨by rw [HN]; exact if_pos t1⟩
        clear HN k1
        go_wp2_with (go_at_call 71; refine (once_ref acc e.o A5 c5 w.heap.size wr.heap.size _ hO.out hz hz hc5 hsz (by omega)).mono ?_; rintro e2 w2 ⟨v2, rfl, ho2, hb2⟩; replace ho2 := Q.mk ho2)
        go_roundw
        case rel => exact ⟨j + 1, by omega, by go_num, ⟨by rw [HS.out]; exact ho2.out⟩, hB.trans hb2⟩
        case measure => simp [intOf] <;> omega
      · have t1 : (e.k == 1) = false := by simp [k1]
        have HS : Q (selN objOf l (j + 1) = acc) := ⟨by rw [HN]; exact if_neg (by show ¬ (e.k == 1) = true; rw [t1]; decide)⟩
        clear HN k1
        go_wp2
        go_roundw
        case rel => exact ⟨j + 1, by omega, by go_num, ⟨by rw [HS.out]; exact hO.out⟩, hB⟩
        case measure => simp [intOf] <;> omega
    · go_wp2
      go_ret
      obtain rfl : j = l.length := by omega
      exact ⟨_, rfl, hO.out, hB⟩
set_option maxHeartbeats 2000000 in
set_option maxRecDepth 100000 in
theorem Procs_ref (l : List Ev) (A : Option Addr) (c B0 N0 : Nat) (w : World) (hr0 : Row eEl B0 N0 w A l) (hN : N0 ≤ w.heap.size) (hc : l.length ≤ c) :
    Calls Try.prog 22 #[.slice A l.length c] w fun e w' => ∃ v, e = .returned v ∧ Own sEl 9 w.heap.size w'.heap.size w' v (procsP l) ∧ Below w.heap.size w w' := by
  have hlen := hr0.lenE
  have hr := Q.mk hr0
  clear hr0
  go_enter Try.func22, Try.ntmps22
  go_wp2_with fail
  go_loopw [3, 4] (fun u i wr => ∃ j : Nat, j ≤ l.length ∧ i = .int .i64 j ∧ Q (Own sEl 9 w.heap.size wr.heap.size wr u (selN procOf l j)) ∧ Below w.heap.size w wr)
    (fun _ i _ => l.length - (intOf i).toNat)
  case atStart => exact ⟨0, Nat.zero_le _, rfl, ⟨(Own.nil _ _ _ _)⟩, Below.refl _ _⟩
  case round =>
    obtain ⟨j, hj, rfl, hO, hB⟩ := hrel
    have hz := hB.size
    by_cases hlt : j < l.length
    · obtain ⟨b, o, e, Ae, ce, rfl, hbN, he, hEOk, x0, x1, x2, x3, x4, x5, x6, x7, x8, x9, x10, x11⟩ := (hr.out.below hB hN).atE j hlt
      have hsl := selN_len procOf l j
      have HN := selN_step procOf l j hlt he
      have hsz := hEOk.p
      obtain ⟨A5, c5, rfl, hc5, hr5⟩ := hO.out.row
      obtain ⟨acc, hacc⟩ : ∃ acc, acc = selN procOf l j := ⟨_, rfl⟩
      rw [← hacc] at hO hsl hc5 HN
      rw [← hacc]
      clear he hacc hEOk hr5
      have HS : Q (selN procOf l (j + 1) = onceP acc e.p) := ⟨HN⟩
      clear HN
      go_wp2_with (go_at_call 71; refine (once_ref acc e.p A5 c5 w.heap.size wr.heap.size _ hO.out hz hz hc5 hsz (by omega)).mono ?_; rintro e2 w2 ⟨v2, rfl, ho2, hb2⟩; replace ho2 := Q.mk ho2)
      go_roundw
      case rel => exact ⟨j + 1, by omega, by go_num, ⟨by rw [HS.out]; exact ho2.out⟩, hB.trans hb2⟩
      case measure => simp [intOf] <;> omega
    · go_wp2
      go_ret
      obtain rfl : j = l.length := by omega
      exact ⟨_, rfl, hO.out, hB⟩
end Go.Proofs.Ytifakbipdmceiaa
end
