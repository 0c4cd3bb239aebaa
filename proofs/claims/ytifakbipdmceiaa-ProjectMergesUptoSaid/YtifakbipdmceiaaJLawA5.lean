import Derived.Test.YtifakbipdmceiaaJLawA1
import Derived.Test.YtifakbipdmceiaaJLawA2
import Derived.Test.YtifakbipdmceiaaJLawA3
import Derived.Test.YtifakbipdmceiaaJLawA4
section
set_option linter.unusedVariables false
namespace Go.Proofs.Ytifakbipdmceiaa
open Go.RowKit

def signZ (l m : Bool) : Int := if l = true then -1 else if m = true then 1 else 0
theorem sign_any (l m : Bool) (w : World) : Calls Try.prog 145 #[.bool l, .bool m] w fun e w' => e = .returned (.int .i64 (signZ l m)) ∧ w = w' := by
  cases l <;> cases m
  all_goals
    go_enter Try.func145, Try.ntmps145
    go_wp2
    go_ret
    exact ⟨rfl, rfl⟩

def partB (n : Int) : Bool := decide (-1048576 ≤ n) && decide (n ≤ 1048576)
theorem part_any (n : Int) (w : World) : Calls Try.prog 133 #[.int .i64 n] w fun e w' => e = .returned (.bool (partB n)) ∧ w = w' := by
  have h : ∃ b, b = partB n := ⟨_, rfl⟩
  obtain ⟨b, hb⟩ := h
  rw [← hb]
  replace hb := Q.mk hb
  by_cases h1 : -1048576 ≤ n <;> by_cases h2 : n ≤ 1048576
  all_goals
    go_enter Try.func133, Try.ntmps133
    go_wp2
    go_ret
    exact ⟨by rw [hb.out]; simp [partB]; omega, rfl⟩

def symB (s : ByteArray) : Bool := nameB s && !(s.toList == [116, 114, 117, 101]) && !(s.toList == [102, 97, 108, 115, 101])
theorem errno_t (e : Int) : errnoB true e = 0 := rfl
theorem errno_f (e : Int) : errnoB false e = e := rfl
set_option maxHeartbeats 1000000 in
theorem symbol_any (s : ByteArray) (w : World) (hs : s.size ≤ 140737488355328) : Calls Try.prog 134 #[.string s] w fun e w' => e = .returned (.bool (symB s)) ∧ Below w.heap.size w w' := by
  obtain ⟨b, hb⟩ : ∃ b, b = symB s := ⟨_, rfl⟩
  rw [← hb]
  replace hb := Q.mk hb
  have e1 := errno_t 21
  have e2 := errno_f 21
  cases hn : nameB s <;> cases h1 : (s.toList == [116, 114, 117, 101]) <;> cases h2 : (s.toList == [102, 97, 108, 115, 101])
  all_goals
    go_enter Try.func134, Try.ntmps134
    go_wp2_with (go_at_call 118; refine (Name_any _ _ hs).mono ?_; rintro e w1 ⟨rfl, hb1⟩)
    go_ret
    exact ⟨by rw [hb.out]; simp [symB, hn, h1, h2], hb1⟩
end Go.Proofs.Ytifakbipdmceiaa
end
section
set_option linter.unusedVariables false
set_option linter.unusedSimpArgs false
namespace Go.Proofs.Ytifakbipdmceiaa
open Go.RowKit

theorem sign_ref (l m : Bool) (w : World) : Calls Try.prog 131 #[.bool l, .bool m] w fun e w' => e = .returned (.int .i64 (signZ l m)) ∧ w = w' := by
  cases l <;> cases m
  all_goals
    go_enter Try.func131, Try.ntmps131
    go_wp2
    go_ret
    exact ⟨rfl, rfl⟩
theorem part_ref (n : Int) (w : World) : Calls Try.prog 137 #[.int .i64 n] w fun e w' => e = .returned (.bool (partB n)) ∧ w = w' := by
  obtain ⟨r, hr⟩ : ∃ r, r = partB n := ⟨_, rfl⟩
  rw [← hr]
  cases h1 : decide (-1048576 ≤ n) <;> cases h2 : decide (n ≤ 1048576)
  all_goals
    have hR : Q (r = (decide (-1048576 ≤ n) && decide (n ≤ 1048576))) := ⟨hr⟩
    rw [h1, h2] at hR
    clear hr
    go_enter Try.func137, Try.ntmps137
    go_wp2
    go_ret
    exact ⟨by rw [hR.out]; rfl, rfl⟩
end Go.Proofs.Ytifakbipdmceiaa
end
section
set_option linter.unusedVariables false
namespace Go.Proofs.Ytifakbipdmceiaa
open Go.RowKit

def smallB (v : Val) : Bool := decide ((cntV v 1 0).1 ≤ 16) && decide ((cntV v 1 0).2 ≤ 4096)
set_option maxHeartbeats 1000000 in
set_option maxRecDepth 100000 in
theorem small_any (k n m : Int) (t : ByteArray) (items : List Val) (A : Option Addr) (c B0 N0 : Nat) (w : World) (hr : Row vEl B0 N0 w A items) (hN : N0 ≤ w.heap.size) (hc : items.length ≤ c) :
    Calls Try.prog 111 #[.agg #[.int .i64 k, .int .i64 n, .int .i64 m, .string t, .slice A items.length c]] w fun e w' => e = .returned (.bool (smallB (.mk k n m t items))) ∧ Below w.heap.size w w' := by
  obtain ⟨b, hb⟩ : ∃ b, b = smallB (.mk k n m t items) := ⟨_, rfl⟩
  rw [← hb]
  obtain ⟨p, hp⟩ : ∃ p, p = cntV (.mk k n m t items) 1 0 := ⟨_, rfl⟩
  simp only [smallB, ← hp] at hb
  replace hb := Q.mk hb
  replace hp := Q.mk hp
  have hr1 := Q.mk hr
  clear hr
  have k0 := heap_alloc2_new w (.cells #[.int .i64 k, .int .i64 n, .int .i64 m, .string t, .slice A items.length c] 32) (.cells #[.int .i64 0] 3)
  replace k0 := Q.mk k0
  by_cases h1 : p.1 ≤ 16 <;> by_cases h2 : p.2 ≤ 4096
  all_goals
    go_enter Try.func111, Try.ntmps111
    go_wp2_with (go_at_call 132; go_loud (refine (counts_any _ k n m t items A c 1 0 (w.heap.size + 1) _ (Nat.le_refl _) (((hr1.out.alloc hN _).alloc (by simp; omega) _).mono (Nat.zero_le _) (by omega)) hc (by omega) (by omega) (by omega) (by omega) k0.out).mono ?_); rw [← hp.out]; rintro e w2 ⟨rfl, hg4, hg5⟩; have c3 := cell_of_one hg4; have HG4 := Q.mk hg4; clear hg4)
    go_ret
    exact ⟨by rw [hb.out]; simp [h1, h2], (((Below.refl _ _).alloc (Nat.le_refl _) _).alloc (by simp) _).grown hg5 (by simp; omega) (fun g e => by cases e; omega)⟩
mutual
def ordP : Val → Val → Int
  | .mk k n m t l, .mk k' n' m' t' l' =>
    if k ≠ k' then signZ (decide (k < k')) true
    else if l.length ≠ l'.length then signZ (decide (l.length < l'.length)) true
    else if signZ (decide (n < n')) (decide (n' < n)) ≠ 0 then signZ (decide (n < n')) (decide (n' < n))
    else if signZ (decide (m < m')) (decide (m' < m)) ≠ 0 then signZ (decide (m < m')) (decide (m' < m))
    else if Lib.compareBytes t.data.toList t'.data.toList ≠ 0 then Lib.compareBytes t.data.toList t'.data.toList
    else ordPL l l'
def ordPL : List Val → List Val → Int
  | x :: xs, y :: ys => if ordP x y ≠ 0 then ordP x y else ordPL xs ys
  | _, _ => 0
end

set_option maxHeartbeats 2000000 in
set_option maxRecDepth 100000 in
theorem order_any (d : Nat) : ∀ (k n m : Int) (t : ByteArray) (items : List Val) (A : Option Addr) (c : Nat) (k' n' m' : Int) (t' : ByteArray) (items' : List Val) (A' : Option Addr) (c' B0 N0 : Nat) (w : World),
    SizeOf.sizeOf items ≤ d → Row vEl B0 N0 w A items → Row vEl B0 N0 w A' items' → N0 ≤ w.heap.size → items.length ≤ c → items'.length ≤ c' →
    Calls Try.prog 135 #[.agg #[.int .i64 k, .int .i64 n, .int .i64 m, .string t, .slice A items.length c], .agg #[.int .i64 k', .int .i64 n', .int .i64 m', .string t', .slice A' items'.length c']] w fun e w' =>
      e = .returned (.int .i64 (ordP (.mk k n m t items) (.mk k' n' m' t' items'))) ∧ Below w.heap.size w w' := by
  induction d with
  | zero => intro k n m t items A c k' n' m' t' items' A' c' B0 N0 w hd; exfalso; have : 0 < SizeOf.sizeOf items := by cases items <;> simp <;> omega
            omega
  | succ d ih =>
  intro k n m t items A c k' n' m' t' items' A' c' B0 N0 w hd hr0 hr0' hN hc hc'
  have IH := Lib.hid ih
  have hr := Q.mk hr0
  have hr' := Q.mk hr0'
  have hlen : items.length * 64 ≤ 140737488355328 := hr0.1
  have hlen' : items'.length * 64 ≤ 140737488355328 := hr0'.1
  clear hr0 hr0' ih
  obtain ⟨res, hres⟩ : ∃ res, res = ordP (.mk k n m t items) (.mk k' n' m' t' items') := ⟨_, rfl⟩
  rw [← hres]
  simp only [ordP] at hres
  have HR := Q.mk hres
  clear hres
  by_cases h1 : k = k'
  · subst h1
    by_cases h2 : items.length = items'.length
    · have f2 : (items.length == items'.length) = true := by simp [h2]
      obtain ⟨c1, hc1⟩ : ∃ c1, c1 = signZ (decide (n < n')) (decide (n' < n)) := ⟨_, rfl⟩
      obtain ⟨c2, hc2⟩ : ∃ c2, c2 = signZ (decide (m < m')) (decide (m' < m)) := ⟨_, rfl⟩
      obtain ⟨c3, hc3⟩ : ∃ c3, c3 = Lib.compareBytes t.data.toList t'.data.toList := ⟨_, rfl⟩
      have H := HR.out
      rw [if_neg (by simp), if_neg (by simp [h2]), ← hc1, ← hc2, ← hc3] at H
      replace H := Q.mk H
      replace hc1 := Q.mk hc1
      replace hc2 := Q.mk hc2
      replace hc3 := Q.mk hc3
      replace h2 := Q.mk h2
      go_enter Try.func135, Try.ntmps135
      go_wp2
      go_region_held3 (fun w' => w'.cell? ⟨w.heap.size, 1, none⟩ = some (.int .i64 n) ∧ w'.cell? ⟨w.heap.size, 2, none⟩ = some (.int .i64 m) ∧ w'.cell? ⟨w.heap.size, 3, none⟩ = some (.string t) ∧ w'.cell? ⟨w.heap.size + 1, 1, none⟩ = some (.int .i64 n') ∧ w'.cell? ⟨w.heap.size + 1, 2, none⟩ = some (.int .i64 m') ∧ w'.cell? ⟨w.heap.size + 1, 3, none⟩ = some (.string t')) (go_keep) (first
        | (go_at_call 145; refine (sign_any _ _ _).mono ?_; rintro e w2 ⟨rfl, rfl⟩)
        | (go_at_call 146; refine (Try.strings_Compare _ _ _).mono ?_; rintro e w2 ⟨rfl, rfl⟩))
      rw [← hc1.out, ← hc2.out, ← hc3.out]
      go_wp2_with fail
      have Z : (((w.alloc (.cells #[.int .i64 k, .int .i64 n, .int .i64 m, .string t, .slice A items.length c] 32)).alloc (.cells #[.int .i64 k, .int .i64 n', .int .i64 m', .string t', .slice A' items'.length c'] 32)).alloc
        (.cells #[.int .i64 c1, .int .i64 c2, .int .i64 c3] 3)).drew.heap.size = w.heap.size + 3 := by simp
      replace Z := Q.mk Z
      obtain ⟨W0, hW0⟩ : ∃ W0, W0 = (((w.alloc (.cells #[.int .i64 k, .int .i64 n, .int .i64 m, .string t, .slice A items.length c] 32)).alloc (.cells #[.int .i64 k, .int .i64 n', .int .i64 m', .string t', .slice A' items'.length c'] 32)).alloc
        (.cells #[.int .i64 c1, .int .i64 c2, .int .i64 c3] 3)).drew := ⟨_, rfl⟩
      rw [← hW0] at Z
      have B0' : Q (W0.heap[w.heap.size + 1]? = some (.cells #[.int .i64 k, .int .i64 n', .int .i64 m', .string t', .slice A' items'.length c'] 32 (0, 0))) := ⟨by rw [hW0]; exact box_alloc (heap_alloc2_new _ _ _) _⟩
      have B0 : Q (W0.heap[w.heap.size]? = some (.cells #[.int .i64 k, .int .i64 n, .int .i64 m, .string t, .slice A items.length c] 32 (0, 0))) := ⟨by rw [hW0]; exact box_alloc (heap_alloc2_old _ _ _) _⟩
      have B1 : Q (W0.heap[w.heap.size + 2]? = some (.cells #[.int .i64 c1, .int .i64 c2, .int .i64 c3] 3 (0, 0))) := ⟨by rw [hW0]; have z := heap_alloc2_new (w.alloc (.cells #[.int .i64 k, .int .i64 n, .int .i64 m, .string t, .slice A items.length c] 32)) (.cells #[.int .i64 k, .int .i64 n', .int .i64 m', .string t', .slice A' items'.length c'] 32) (.cells #[.int .i64 c1, .int .i64 c2, .int .i64 c3] 3); rw [World.size_alloc] at z; exact z⟩
      have BB : Below w.heap.size w W0 := by rw [hW0]; exact ((((Below.refl _ _).alloc (Nat.le_refl _) _).alloc (by simp) _).alloc (by simp; omega) _).drew
      rw [← hW0]
      clear hW0
      obtain ⟨p0, p1, p2, p3, p4, pf⟩ := box5 B0.out
      obtain ⟨q0, q1, q2, q3, q4, qf⟩ := box5 B0'.out
      have r0 : W0.cell? ⟨w.heap.size + 2, 0, none⟩ = some (.int .i64 c1) := box_cells B1.out 0
      have r1 : W0.cell? ⟨w.heap.size + 2, 1, none⟩ = some (.int .i64 c2) := box_cells B1.out 1
      have r2 : W0.cell? ⟨w.heap.size + 2, 2, none⟩ = some (.int .i64 c3) := box_cells B1.out 2
      go_loop [65] (fun i => ∃ k : Nat, k ≤ 3 ∧ i = .int .i64 k ∧ Q ((0 < k → c1 = 0) ∧ (1 < k → c2 = 0) ∧ (2 < k → c3 = 0))) (fun i => 3 - (intOf i).toNat)
      case atStart => exact ⟨0, by omega, rfl, ⟨by omega, by omega, by omega⟩⟩
      case round =>
        obtain ⟨k1, hk, rfl, hcs⟩ := hrel
        rcases (show k1 = 0 ∨ k1 = 1 ∨ k1 = 2 ∨ k1 = 3 from by omega) with rfl | rfl | rfl | rfl
        · by_cases z1 : c1 = 0
          · have e1 : (c1 != 0) = false := by simp [z1]
            replace z1 := Q.mk z1
            go_wp2
            go_round
            case rel => exact ⟨1, by omega, by rfl, ⟨fun _ => z1.out, fun hh => absurd hh (by omega), fun hh => absurd hh (by omega)⟩⟩
            case measure => simp [intOf]
          · have e1 : (c1 != 0) = true := by simp [z1]
            replace z1 := Q.mk z1
            go_wp2
            go_ret
            have h5 := H.out
            rw [if_pos z1.out] at h5
            exact ⟨by rw [h5]; rfl, BB⟩
        · by_cases z1 : c2 = 0
          · have e1 : (c2 != 0) = false := by simp [z1]
            replace z1 := Q.mk z1
            go_wp2
            go_round
            case rel => exact ⟨2, by omega, by rfl, ⟨fun _ => hcs.out.1 (by omega), fun _ => z1.out, fun hh => absurd hh (by omega)⟩⟩
            case measure => simp [intOf]
          · have e1 : (c2 != 0) = true := by simp [z1]
            replace z1 := Q.mk z1
            go_wp2
            go_ret
            have h5 := H.out
            rw [if_neg (by simp [hcs.out.1 (by omega)])] at h5
            rw [if_pos z1.out] at h5
            exact ⟨by rw [h5]; rfl, BB⟩
        · by_cases z1 : c3 = 0
          · have e1 : (c3 != 0) = false := by simp [z1]
            replace z1 := Q.mk z1
            go_wp2
            go_round
            case rel => exact ⟨3, by omega, by rfl, ⟨fun _ => hcs.out.1 (by omega), fun _ => hcs.out.2.1 (by omega), fun _ => z1.out⟩⟩
            case measure => simp [intOf]
          · have e1 : (c3 != 0) = true := by simp [z1]
            replace z1 := Q.mk z1
            go_wp2
            go_ret
            have h5 := H.out
            rw [if_neg (by simp [hcs.out.1 (by omega)]), if_neg (by simp [hcs.out.2.1 (by omega)])] at h5
            rw [if_pos z1.out] at h5
            exact ⟨by rw [h5]; rfl, BB⟩
        · have h5 := H.out
          rw [if_neg (by simp [hcs.out.1 (by omega)]), if_neg (by simp [hcs.out.2.1 (by omega)]), if_neg (by simp [hcs.out.2.2 (by omega)])] at h5
          replace h5 := Q.mk h5
          have hr0 := Q.mk ((hr.out.below BB hN).mono (Nat.zero_le _) hN)
          have hr0' := Q.mk ((hr'.out.below BB hN).mono (Nat.zero_le _) hN)
          have hl3 := Z.out
          go_wp2_with fail
          go_loopw [76] (fun i wr => ∃ j : Nat, j ≤ items.length ∧ i = .int .i64 j ∧ Q (wr.heap[w.heap.size + 1]? = some (.cells #[.int .i64 k, .int .i64 n', .int .i64 m', .string t', .slice A' items'.length c'] 32 (0, 0))) ∧ Below w.heap.size w wr ∧ Q (res = ordPL (items.drop j) (items'.drop j)))
            (fun i _ => items.length - (intOf i).toNat)
          case atStart => exact ⟨0, Nat.zero_le _, rfl, B0', BB, h5⟩
          case round =>
            clear h5 p0 p1 p2 p3 p4 pf q0 q1 q2 q3 q4 qf r0 r1 r2 hr0 hr0'
            obtain ⟨j, hj, rfl, hb, hB, HS⟩ := hrel
            obtain ⟨s0, s1, s2, s3, s4, sf⟩ := box5 hb.out
            have hwl := box_lt hb.out
            by_cases hlt : j < items.length
            · have hlt' : j < items'.length := by have := h2.out; omega
              obtain ⟨b, o, kx, nx, mx, tx, ix, Ax, cx, rfl, hbx, hx, htx, hcx, hrx, x0, x1, x2, x3, x4⟩ := (hr.out.below hB hN).atV j hlt
              obtain ⟨b', o', ky, ny, my, ty, iy, Ay, cy, rfl, hby, hy, hty, hcy, hry, y0, y1, y2, y3, y4⟩ := (hr'.out.below hB hN).atV j hlt'
              have hsz := Val.items_lt hlt hx
              have HS2 := HS.out
              rw [List.drop_eq_getElem_cons hlt, List.drop_eq_getElem_cons hlt', hx, hy] at HS2
              simp only [ordPL] at HS2
              obtain ⟨p, hp⟩ : ∃ p, p = ordP (.mk kx nx mx tx ix) (.mk ky ny my ty iy) := ⟨_, rfl⟩
              rw [← hp] at HS2
              replace HS2 := Q.mk HS2
              replace hp := Q.mk hp
              replace hx := Q.mk hx
              replace hy := Q.mk hy
              replace hrx := Q.mk hrx
              replace hry := Q.mk hry
              have l1 : w.heap.size < wr.heap.size := by omega
              have l2 : b' < wr.heap.size := by omega
              have l3 : w.heap.size + 1 < wr.heap.size + 1 := by omega
              have l4 : b' < wr.heap.size + 1 := by omega
              go_wp2_with fail
              go_region_held3 (fun w' => w'.cell? ⟨wr.heap.size, 0, none⟩ = some (.int .i64 kx) ∧ w'.cell? ⟨wr.heap.size, 1, none⟩ = some (.int .i64 nx) ∧ w'.cell? ⟨wr.heap.size, 2, none⟩ = some (.int .i64 mx) ∧ w'.cell? ⟨wr.heap.size, 3, none⟩ = some (.string tx) ∧
                  w'.cell? ⟨wr.heap.size, 4, none⟩ = some (.slice Ax ix.length cx) ∧ w'.cell? ⟨w.heap.size + 1, 4, none⟩ = some (.slice (some ⟨b', o', none⟩) items'.length c') ∧
                  w'.cell? ⟨b', o' + j * 5, none⟩ = some (.int .i64 ky) ∧ w'.cell? ⟨b', o' + j * 5 + 1, none⟩ = some (.int .i64 ny) ∧ w'.cell? ⟨b', o' + j * 5 + 2, none⟩ = some (.int .i64 my) ∧ w'.cell? ⟨b', o' + j * 5 + 3, none⟩ = some (.string ty) ∧
                  w'.cell? ⟨b', o' + j * 5 + 4, none⟩ = some (.slice Ay iy.length cy)) (go_keep)
                (first | (go_at_call 135; refine (IH.out kx nx mx tx ix Ax cx ky ny my ty iy Ay cy _ _ _ (by omega) ((hrx.out.alloc (by omega) _).drew) ((hry.out.alloc (by omega) _).drew) (by simp; omega) hcx hcy).mono ?_; rw [← hp.out]; rintro e w2 ⟨rfl, hb2⟩; obtain ⟨hcc, hff, hsz2⟩ := bcell hb2; simp only [World.size_alloc, World.size_drew] at hcc hff hsz2))
              have BW : Below w.heap.size w w2 := (hB.alloc (by omega) _).drew.trans (hb2.mono (by simp; omega))
              have hb4 := hb2.box (box_alloc hb.out _) (by simp; omega)
              by_cases hp0 : p = 0
              · have h5 := HS2.out
                rw [if_neg (by simp [hp0])] at h5
                have e1 : (p != 0) = false := by simp [hp0]
                replace hp0 := Q.mk hp0
                go_wp2
                go_roundw
                case rel => exact ⟨j + 1, by omega, by go_num, ⟨hb4⟩, BW, ⟨h5⟩⟩
                case measure => simp [intOf]; omega
              · have h5 := HS2.out
                rw [if_pos hp0] at h5
                have e1 : (p != 0) = true := by simp [hp0]
                replace hp0 := Q.mk hp0
                go_wp2
                go_ret
                exact ⟨by rw [h5]; rfl, BW⟩
            · go_wp2
              go_ret
              have h5 := HS.out
              rw [List.drop_eq_nil_of_le (by omega)] at h5
              simp only [ordPL] at h5
              exact ⟨by rw [h5]; rfl, hB⟩
    · have f2 : (items.length == items'.length) = false := by simp [h2]
      have h5 := HR.out
      rw [if_neg (by simp), if_pos h2] at h5
      have f3 : ((items.length : Int) != (items'.length : Int)) = true := by simp; omega
      obtain ⟨bb, hbb⟩ : ∃ bb, bb = decide (items.length < items'.length) := ⟨_, rfl⟩
      rw [← hbb] at h5
      have f4 : decide ((items.length : Int) < (items'.length : Int)) = bb := by rw [hbb]; simp
      replace h5 := Q.mk h5
      replace hbb := Q.mk hbb
      go_enter Try.func135, Try.ntmps135
      go_wp2_with (go_at_call 145; refine (sign_any _ _ _).mono ?_; rintro e w2 ⟨rfl, rfl⟩)
      go_ret
      exact ⟨by rw [h5.out]; simp [hbb.out], ((Below.refl _ _).alloc (Nat.le_refl _) _).alloc (by simp) _⟩
  · have f1 : (k != k') = true := by simp [h1]
    have h5 := HR.out
    rw [if_pos h1] at h5
    replace h5 := Q.mk h5
    replace h1 := Q.mk h1
    go_enter Try.func135, Try.ntmps135
    go_wp2_with (go_at_call 145; refine (sign_any _ _ _).mono ?_; rintro e w2 ⟨rfl, rfl⟩)
    go_ret
    exact ⟨by rw [h5.out]; rfl, ((Below.refl _ _).alloc (Nat.le_refl _) _).alloc (by simp) _⟩
end Go.Proofs.Ytifakbipdmceiaa
end
section
set_option linter.unusedVariables false
namespace Go.Proofs.Ytifakbipdmceiaa
open Go.RowKit

def plainB (t : ByteArray) (l : List Val) : Bool := t.toList.isEmpty && decide (l.length = 0)
mutual
def formB : Val → Bool
  | .mk k n m t l =>
    if k = 1 then plainB t l && (m == 0) && (n == 0 || n == 1)
    else if k = 2 then plainB t l && (m == 0)
    else if k = 3 then plainB t l && partB n && partB m
    else if k = 4 then (n == 0) && (m == 0) && decide (l.length = 0) && symB t
    else if k = 5 ∨ k = 6 ∨ k = 7 then (n == 0) && (m == 0) && t.toList.isEmpty && formL (k == 7) none l
    else false
def formL (set : Bool) : Option Val → List Val → Bool
  | _, [] => true
  | none, x :: xs => formB x && formL set (some x) xs
  | some p, x :: xs => formB x && (!set || decide (ordP p x < 0)) && formL set (some x) xs
end

def prevV (items : List Val) (j : Nat) : Option Val := if j = 0 then none else items[j - 1]?
theorem prevV_succ (items : List Val) (j : Nat) (hj : j < items.length) : prevV items (j + 1) = some items[j] := by simp [prevV, hj]
theorem formL_step (sb : Bool) (items : List Val) (j : Nat) (hj : j < items.length) : formL sb (prevV items j) (items.drop j) =
    (formB items[j] && (match prevV items j with | none => true | some p => !sb || decide (ordP p items[j] < 0)) && formL sb (prevV items (j + 1)) (items.drop (j + 1))) := by
  rw [List.drop_eq_getElem_cons hj, prevV_succ items j hj]
  cases prevV items j <;> simp [formL]
end Go.Proofs.Ytifakbipdmceiaa
end
