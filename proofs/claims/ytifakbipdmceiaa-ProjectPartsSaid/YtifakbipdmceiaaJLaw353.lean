import Derived.Test.YtifakbipdmceiaaJLaw352
set_option linter.unusedVariables false
set_option linter.unusedSimpArgs false
namespace Go.Proofs.Ytifakbipdmceiaa
open Go.RowKit

def ev78 : Ev := ⟨78, ⟨#[]⟩, ⟨#[]⟩, ⟨#[]⟩, .mk 0 0 0 ⟨#[]⟩ [], 0, 0, 0⟩
set_option maxHeartbeats 4000000 in
set_option maxRecDepth 100000 in
theorem parts_law (l : List Ev) (name : ByteArray) (A : Option Addr) (c B0 N0 : Nat) (w : World) (hr0 : Row eEl B0 N0 w A l) (hN : N0 ≤ w.heap.size) (hc : l.length ≤ c) (hl0 : l.length * 144 ≤ 140737488351232) :
    Calls Try.prog 3 #[.slice A l.length c, .string name] w fun e w' => e = .returned (.bool true) ∧ Below w.heap.size w w' := by
  obtain ⟨xo, xp, xz, os, ps, P, hxo0⟩ : ∃ xo xp xz os ps, Q (ParL l name xo xp xz os ps) ∧ xo.length ≤ l.length := ⟨_, _, _, _, _, ⟨rfl, rfl, rfl, rfl, rfl⟩, selP_len _ _ _⟩
  have hxl := Q.mk hxo0
  have hl := Q.mk hl0
  have hr := Q.mk hr0
  clear hr0 hl0 hxo0
  have BC : Below w.heap.size w w := Below.refl _ _
  go_enter Try.func3, Try.ntmps3
  go_wp2_with (first
    | (go_at_call 14; refine (in_p (hr.out.below BC hN) (Nat.le_trans hN BC.size) hc).mono ?_; rintro e w1 ⟨A1, c1, rfl, hc1, R1, hb⟩; replace R1 := Q.mk R1; replace BC := BC.trans (hb.mono BC.size); have K1 := Q.mk BC; have B1 : Below w1.heap.size w1 w1 := Below.refl _ _; clear hb)
    | (go_at_call 15; refine (object_p P (R1.out.below B1 (Nat.le_refl _)) B1.size hc1).mono ?_; rintro e w2 ⟨Ax, cx, rfl, OX, RX, hb⟩; replace OX := Q.mk OX; replace RX := Q.mk RX; replace BC := BC.trans (hb.mono BC.size); replace B1 := B1.trans (hb.mono B1.size); have B2 : Below w2.heap.size w2 w2 := Below.refl _ _; clear hb)
    | (go_at_call 16; refine (proc_p P (R1.out.below B1 (Nat.le_refl _)) B1.size hc1).mono ?_; rintro e w3 ⟨Ay, cy, rfl, RY, hb⟩; replace RY := Q.mk RY; replace BC := BC.trans (hb.mono BC.size); replace B1 := B1.trans (hb.mono B1.size); replace B2 := B2.trans (hb.mono B2.size); have B3 : Below w3.heap.size w3 w3 := Below.refl _ _; have K3 := Q.mk (And.intro BC (And.intro B1 B2)); clear hb BC B1 B2)
    | (go_at_call 17; refine (whole_p P (R1.out.below K3.out.2.1 (Nat.le_refl _)) K3.out.2.1.size hc1).mono ?_; rintro e w4 ⟨Az, cz, F, rfl, RZ, SZ, hb⟩; have hzl := RZ.lenE; replace RZ := Q.mk RZ; replace SZ := Q.mk SZ; replace B3 := B3.trans hb; have B4 : Below w4.heap.size w4 w4 := Below.refl _ _; clear hb)
    | (go_at_call 19; refine (objects_p P (R1.out.below (K3.out.2.1.trans (B3.mono K3.out.2.1.size)) (Nat.le_refl _)) (Nat.le_trans K3.out.2.1.size B3.size) hc1).mono ?_; rintro e w5 ⟨A5, c5, rfl, R5, hb⟩; replace R5 := Q.mk R5; replace B3 := B3.trans (hb.mono B3.size); replace B4 := B4.trans (hb.mono B4.size); have B5 : Below w5.heap.size w5 w5 := Below.refl _ _; clear hb)
    | (go_at_call 20; refine (objects_q P (hr.out.below (K3.out.1.trans (B3.mono K3.out.1.size)) hN) (Nat.le_trans hN (Nat.le_trans K3.out.1.size B3.size)) hc).mono ?_; rintro e w6 ⟨A6, c6, rfl, R6, hb⟩; replace R6 := Q.mk R6; replace B3 := B3.trans (hb.mono B3.size); replace B4 := B4.trans (hb.mono B4.size); replace B5 := B5.trans (hb.mono B5.size); clear hb)
    | (go_at_call 18; refine (texts_refl os A5 A6 c5 c6 0 _ 0 _ _ (R5.out.below B5 (Nat.le_refl _)) R6.out B5.size (Nat.le_refl _)).mono ?_; rintro e w7 ⟨rfl, hb⟩; replace B3 := B3.trans (hb.mono B3.size); replace B4 := B4.trans (hb.mono B4.size); clear hb R5 R6 B5)
    | (go_at_call 21; refine (procs_p P (R1.out.below (K3.out.2.1.trans (B3.mono K3.out.2.1.size)) (Nat.le_refl _)) (Nat.le_trans K3.out.2.1.size B3.size) hc1).mono ?_; rintro e w8 ⟨A8, c8, rfl, R8, hb⟩; replace R8 := Q.mk R8; replace B3 := B3.trans (hb.mono B3.size); replace B4 := B4.trans (hb.mono B4.size); have B8 : Below w8.heap.size w8 w8 := Below.refl _ _; clear hb)
    | (go_at_call 22; refine (procs_q P (hr.out.below (K3.out.1.trans (B3.mono K3.out.1.size)) hN) (Nat.le_trans hN (Nat.le_trans K3.out.1.size B3.size)) hc).mono ?_; rintro e w9 ⟨A9, c9, rfl, R9, hb⟩; replace R9 := Q.mk R9; replace B3 := B3.trans (hb.mono B3.size); replace B4 := B4.trans (hb.mono B4.size); replace B8 := B8.trans (hb.mono B8.size); clear hb)
    | (go_at_call 18; refine (texts_refl ps A8 A9 c8 c9 0 _ 0 _ _ (R8.out.below B8 (Nat.le_refl _)) R9.out B8.size (Nat.le_refl _)).mono ?_; rintro e w10 ⟨rfl, hb⟩; replace B3 := B3.trans (hb.mono B3.size); replace B4 := B4.trans (hb.mono B4.size); clear hb R8 R9 B8)
    | (go_at_call 24; refine (object_q P (hr.out.below (K3.out.1.trans (B3.mono K3.out.1.size)) hN) (Nat.le_trans hN (Nat.le_trans K3.out.1.size B3.size)) hc).mono ?_; rintro e w11 ⟨A11, c11, rfl, R11, hb⟩; replace R11 := Q.mk R11; replace B3 := B3.trans (hb.mono B3.size); replace B4 := B4.trans (hb.mono B4.size); clear hb)
    | (go_at_call 23; refine (exact_p xo ((RX.out.below K3.out.2.2 (Nat.le_refl _)).below B3 K3.out.2.2.size) R11.out (Nat.le_trans K3.out.2.2.size B3.size) (Nat.le_refl _)).mono ?_; rintro e w12 ⟨rfl, hb⟩; replace B3 := B3.trans (hb.mono B3.size); replace B4 := B4.trans (hb.mono B4.size); clear hb R11 RX)
    | (go_at_call 25; refine (proc_q P (hr.out.below (K3.out.1.trans (B3.mono K3.out.1.size)) hN) (Nat.le_trans hN (Nat.le_trans K3.out.1.size B3.size)) hc).mono ?_; rintro e w13 ⟨A13, c13, rfl, R13, hb⟩; replace R13 := Q.mk R13; replace B3 := B3.trans (hb.mono B3.size); replace B4 := B4.trans (hb.mono B4.size); clear hb)
    | (go_at_call 23; refine (exact_p xp (RY.out.below B3 (Nat.le_refl _)) R13.out B3.size (Nat.le_refl _)).mono ?_; rintro e w14 ⟨rfl, hb⟩; replace B3 := B3.trans (hb.mono B3.size); replace B4 := B4.trans (hb.mono B4.size); clear hb R13 RY)
    | (go_at_call 26; refine (whole_q P (hr.out.below (K3.out.1.trans (B3.mono K3.out.1.size)) hN) (Nat.le_trans hN (Nat.le_trans K3.out.1.size B3.size)) hc).mono ?_; rintro e w15 ⟨A15, c15, rfl, R15, hb⟩; replace R15 := Q.mk R15; replace B3 := B3.trans (hb.mono B3.size); replace B4 := B4.trans (hb.mono B4.size); clear hb)
    | (go_at_call 23; refine (exact_p xz (RZ.out.below B4 (Nat.le_refl _)) R15.out B4.size (Nat.le_refl _)).mono ?_; rintro e w16 ⟨rfl, hb⟩; replace B3 := B3.trans (hb.mono B3.size); replace B4 := B4.trans (hb.mono B4.size); clear hb R15 RZ))
  replace SZ := Q.mk (SZ.out.below B4)
  clear B4
  go_loopw [9] (fun i wr => ∃ n : Nat, n ≤ xz.length ∧ i = .int .i64 n ∧ Q (Smear w3.heap.size xz.length Az F wr) ∧ Below w3.heap.size w3 wr)
    (fun i _ => xz.length - (intOf i).toNat)
  case atStart => exact ⟨0, Nat.zero_le _, rfl, SZ, B3⟩
  case round =>
    clear SZ B3
    obtain ⟨n, hn, rfl, SZ, B3⟩ := hrel
    by_cases hlt : n < xz.length
    · obtain ⟨⟨A', m, cm⟩, hF0⟩ : ∃ f, F n = f := ⟨_, rfl⟩
      have hF := Q.mk hF0
      clear hF0
      go_wp2_with fail
      go_loopw [10] (fun j wi => ∃ k : Nat, k ≤ m ∧ j = .int .i64 k ∧ Q (Smear w3.heap.size xz.length Az F wi) ∧ Below w3.heap.size w3 wi)
        (fun j _ => m - (intOf j).toNat)
      case atStart => exact ⟨0, Nat.zero_le _, rfl, SZ, B3⟩
      case round =>
        clear SZ B3
        obtain ⟨k, hk, rfl, SI, BI⟩ := hrel
        obtain ⟨g, o, u0, rfl, hMg, hgl, x8, x1, f1, hm⟩ := SI.out.atF hlt hF.out
        by_cases hkm : k < m
        · obtain ⟨b, p, v0, v1, v2, v3, v4, rfl, hMb, hbl, y0, y1, y2, y3, y4, fz⟩ := SI.out.itemF hlt hF.out hkm
          have z0 := fz (p + k * 5)
          have z1 := fz (p + k * 5 + 1)
          have z2 := fz (p + k * 5 + 2)
          have z3 := fz (p + k * 5 + 3)
          have z4 := fz (p + k * 5 + 4)
          clear fz
          have h0m : 0 < m := by omega
          go_wp2_with fail
          go_roundw
          case rel => exact ⟨k + 1, by omega, by go_num, ⟨((((SI.out.setF hlt hF.out h0m _ _).setF hlt hF.out h0m _ _).setF hlt hF.out h0m _ _).setF hlt hF.out h0m _ _).setF hlt hF.out h0m _ _⟩, ((((BI.setCell hMb _).setCell hMb _).setCell hMb _).setCell hMb _).setCell hMb _⟩
          case measure => simp [intOf]; omega
        · go_wp2_with fail
          go_roundw
          case rel => exact ⟨n + 1, by omega, by go_num, ⟨SI.out.setP rfl _ _⟩, BI.setCell hMg _⟩
          case measure => simp [intOf]; omega
    · go_wp2_with fail
      have BQ := Q.mk B3
      replace OX := Q.mk (OX.out.below (K3.out.2.2.trans (B3.mono K3.out.2.2.size)) (Nat.le_refl _))
      have B1 : Below w1.heap.size w1 wr := K3.out.2.1.trans (B3.mono K3.out.2.1.size)
      have z1 := B1.size
      have hOXs := Q.mk (show w2.heap.size ≤ wr.heap.size from OX.out.1)
      replace OX := Q.mk (OX.out.widen OX.out.1 (Nat.le_refl _))
      clear SZ B3 hOXs
      go_loopw [6, 11] (fun x i wx => ∃ (j : Nat) (zs : List Ev), j ≤ 20 ∧ i = .int .i64 j ∧ Q (Own eEl 37 w1.heap.size wx.heap.size wx x zs) ∧ Q (zs.length ≤ xo.length + j) ∧ Below w1.heap.size w1 wx)
        (fun _ i _ => 20 - (intOf i).toNat)
      case atStart => exact ⟨0, xo, Nat.zero_le _, rfl, OX, ⟨Nat.le_refl _⟩, B1⟩
      case round =>
        clear OX B1 z1
        obtain ⟨j, zs, hj, rfl, hO, hzs, B1⟩ := hrel
        have hz := B1.size
        by_cases hlt : j < 20
        · have HY : ∀ W : World, eEl.R wr.heap.size wr.heap.size W ev78 [.int .i64 78, .string ⟨#[]⟩, .string ⟨#[]⟩, .string ⟨#[]⟩, .int .i64 0, .int .i64 0, .int .i64 0, .string ⟨#[]⟩, .slice none 0 0, .int .i64 0, .int .i64 0, .int .i64 0] := fun W => ⟨none, 0, ⟨⟨Row.nil _ _ _ _ _, (by show 0 ≤ _; decide), Nat.le_refl _⟩, (by show 0 ≤ _; decide), (by show 0 ≤ _; decide), (by show 0 ≤ _; decide)⟩, rfl⟩
          replace HY := Q.mk HY
          have hbnd : (zs.length + 1) * eEl.by_ ≤ 140737488355328 := by have h1 := hzs.out; have h2 := hl.out; have h3 := hxl.out; simp [eEl]; omega
          have hbnd := Q.mk hbnd
          go_wp2_with (at_builtin; refine wpList_append1 _ rfl eEl (.tmp 93) (.tmp 95) 22 37 rfl Try.underlying22 infoE rfl (B := w1.heap.size) (N := wr.heap.size) (B' := wr.heap.size) (N' := wr.heap.size) (y := ev78) (H := wr.heap.size) w1.heap.size (by rfl) (by rfl) (heap_alloc_new _ _) (hO.out.alloc _) (HY.out _) (Or.inl (Nat.le_refl _)) (by simp) (Nat.le_refl _) hz (by simp; omega) (by decide) hbnd.out ?_; clear HY; intro g1 c9 w5 hO4 hg4 hat4)
          have BW : Below w1.heap.size w1 w5 := hO.out.below_grown (B1.alloc hz _) hg4 (Nat.le_refl _) (by simp; omega)
          clear hg4 hat4
          go_roundw
          case rel => exact ⟨j + 1, zs ++ [ev78], by omega, by go_num, ⟨hO4⟩, ⟨by have h1 := hzs.out; simp; omega⟩, BW⟩
          case measure => simp [intOf]; omega
        · go_wp2_with fail
          clear hzl
          have BF : Below wr.heap.size wr wr := Below.refl _ _
          have BC : Below w.heap.size w wr := K1.out.trans (B1.mono K1.out.size)
          replace BC := Q.mk BC
          replace B1 := Q.mk B1
          go_wp2_with (first
            | (go_at_call 23; with_reducible refine (exact_p xp (R21.out.below BY (Nat.le_refl _)) R22.out BY.size (Nat.le_refl _)).mono ?_; rintro e w23 ⟨rfl, hb⟩; replace BF := BF.trans (hb.mono BF.size); clear hb R21 R22 BY)
            | (go_at_call 16; refine (proc_p P (R1.out.below (B1.out.trans (BF.mono B1.out.size)) (Nat.le_refl _)) (Nat.le_trans B1.out.size BF.size) hc1).mono ?_; rintro e w21 ⟨A21, c21, rfl, R21, hb⟩; replace R21 := Q.mk R21; replace BF := BF.trans (hb.mono BF.size); have BY : Below w21.heap.size w21 w21 := Below.refl _ _; clear hb)
            | (go_at_call 25; refine (proc_q P (hr.out.below (BC.out.trans (BF.mono BC.out.size)) hN) (Nat.le_trans hN (Nat.le_trans BC.out.size BF.size)) hc).mono ?_; rintro e w22 ⟨A22, c22, rfl, R22, hb⟩; replace R22 := Q.mk R22; replace BF := BF.trans (hb.mono BF.size); replace BY := BY.trans hb; clear hb)
            | (go_at_call 23; with_reducible refine (exact_p l (R1.out.below B1.out (Nat.le_refl _)) (hr.out.below BC.out hN) B1.out.size (Nat.le_trans hN BC.out.size)).mono ?_; rintro e w20 ⟨rfl, hb⟩; replace BF := BF.trans hb; clear hb)
            | (go_at_call 27; refine (alive_any _).mono ?_; rintro e w24 ⟨rfl, hb⟩; replace BF := BF.trans (hb.mono BF.size); clear hb))
          go_ret
          exact ⟨rfl, BC.out.trans (BF.mono BC.out.size)⟩
end Go.Proofs.Ytifakbipdmceiaa
