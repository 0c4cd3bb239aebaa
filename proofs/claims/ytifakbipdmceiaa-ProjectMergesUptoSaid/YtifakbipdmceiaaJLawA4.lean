import Derived.Test.YtifakbipdmceiaaJLawA1
set_option linter.unusedVariables false
namespace Go.Proofs.Ytifakbipdmceiaa
open Go.RowKit
attribute [local go_sem] max_ints

mutual
def cntV : Val → Int → Int → Int × Int
  | .mk _ _ _ _ l, deep, nodes => if nodes + 1 > 4096 ∨ deep > 16 then (deep, nodes + 1) else cntL l deep (nodes + 1) deep
def cntL : List Val → Int → Int → Int → Int × Int
  | [], _, n, most => (most, n)
  | x :: xs, deep, n, most =>
    if (cntV x (deep + 1) n).2 > 4096 ∨ max most (cntV x (deep + 1) n).1 > 16 then (max most (cntV x (deep + 1) n).1, (cntV x (deep + 1) n).2)
    else cntL xs deep (cntV x (deep + 1) n).2 (max most (cntV x (deep + 1) n).1)
end
mutual
theorem cntV_bd : ∀ (v : Val) (deep nodes : Int), nodes ≤ 4096 → nodes + 1 ≤ (cntV v deep nodes).2 ∧ (cntV v deep nodes).2 ≤ 4097
  | .mk _ _ _ _ l, deep, nodes, h => by
    simp only [cntV]
    split
    · exact ⟨by simp, by simp; omega⟩
    · exact cntL_bd l deep (nodes + 1) deep (by omega)
theorem cntL_bd : ∀ (l : List Val) (deep n most : Int), n ≤ 4096 → n ≤ (cntL l deep n most).2 ∧ (cntL l deep n most).2 ≤ 4097
  | [], deep, n, most, h => by simp only [cntL]; omega
  | x :: xs, deep, n, most, h => by
    have h1 := cntV_bd x (deep + 1) n h
    simp only [cntL]
    split
    · simp only; omega
    · rename_i h2
      have h3 := cntL_bd xs deep (cntV x (deep + 1) n).2 (max most (cntV x (deep + 1) n).1) (by omega)
      omega
end

theorem grownBy_refl (w : World) (row : Option Nat) : w.grownBy w row := ⟨rfl, rfl, rfl, Nat.le_refl _, fun _ _ _ => rfl⟩
theorem grownBy_set {w w1 : World} {g : Nat} (h : w.grownBy w1 (some g)) (i : Nat) (v : Value) : w.grownBy (w1.setCell ⟨g, i, none⟩ v) (some g) :=
  ⟨h.os, h.tape, h.output, by rw [size_set]; exact h.size, fun k hk hne => (heap_setCell_other _ _ _ _ (fun e => hne (by rw [e]))).trans (h.block k hk hne)⟩

set_option maxHeartbeats 1000000 in
set_option maxRecDepth 100000 in
theorem counts_any (d : Nat) : ∀ (k n m : Int) (t : ByteArray) (items : List Val) (A : Option Addr) (c : Nat) (deep nodes : Int) (g : Nat) (w : World), SizeOf.sizeOf items ≤ d → Row vEl 0 g w A items → items.length ≤ c →
    0 ≤ deep → deep ≤ 17 → 0 ≤ nodes → nodes ≤ 4096 → w.heap[g]? = some (.cells #[.int .i64 nodes] 3 (0, 0)) →
    Calls Try.prog 132 #[.agg #[.int .i64 k, .int .i64 n, .int .i64 m, .string t, .slice A items.length c], .int .i64 deep, .pointer (some ⟨g, 0, none⟩)] w fun e w' =>
      e = .returned (.int .i64 (cntV (.mk k n m t items) deep nodes).1) ∧ w'.heap[g]? = some (.cells #[.int .i64 (cntV (.mk k n m t items) deep nodes).2] 3 (0, 0)) ∧ w.grownBy w' (some g) := by
  induction d with
  | zero => intro k n m t items A c deep nodes g w hd; exfalso; have : 0 < SizeOf.sizeOf items := by cases items <;> simp <;> omega
            omega
  | succ d ih =>
  intro k n m t items A c deep nodes g w hd hr0 hc hd0 hd1 hn0 hn1 hg
  have IH := Lib.hid ih
  have hr := Q.mk hr0
  have hlen : items.length * 64 ≤ 140737488355328 := hr0.1
  clear hr0 ih
  obtain ⟨res, hres⟩ : ∃ res, res = cntV (.mk k n m t items) deep nodes := ⟨_, rfl⟩
  rw [← hres]
  simp only [cntV] at hres
  have HR := Q.mk hres
  clear hres
  have hg1 := cell_of_one hg
  have hg2 := free_of_one hg
  have HG := Q.mk hg
  have hgl := box_lt hg
  clear hg
  have hbox : (((w.alloc (.cells #[.int .i64 k, .int .i64 n, .int .i64 m, .string t, .slice A items.length c] 32)).setCell ⟨g, 0, none⟩ (.int .i64 (nodes + 1)))).heap[g]? = some (.cells #[.int .i64 (nodes + 1)] 3 (0, 0)) :=
    box_set (cs := #[.int .i64 nodes]) (box_alloc HG.out _) 0 _
  have hswap : (w.setCell ⟨g, 0, none⟩ (.int .i64 (nodes + 1))).alloc (.cells #[.int .i64 k, .int .i64 n, .int .i64 m, .string t, .slice A items.length c] 32) = (w.alloc (.cells #[.int .i64 k, .int .i64 n, .int .i64 m, .string t, .slice A items.length c] 32)).setCell ⟨g, 0, none⟩ (.int .i64 (nodes + 1)) :=
    (World.setCell_alloc_past (w := w) _ g 0 _ hgl).symm
  have hgr : w.grownBy ((w.alloc (.cells #[.int .i64 k, .int .i64 n, .int .i64 m, .string t, .slice A items.length c] 32)).setCell ⟨g, 0, none⟩ (.int .i64 (nodes + 1))) (some g) := grownBy_set (World.grownBy_alloc w _ _) 0 _
  rw [← hswap] at hbox hgr
  replace hbox := Q.mk hbox
  clear hswap
  by_cases h1 : 4096 < nodes + 1
  · have e1 : decide (4096 < nodes + 1) = true := by simp; omega
    go_enter Try.func132, Try.ntmps132
    go_wp2
    go_ret
    have h2 := HR.out
    rw [if_pos (.inl h1)] at h2
    exact ⟨by rw [h2]; rfl, by rw [h2]; exact hbox.out, hgr⟩
  · have e1 : decide (4096 < nodes + 1) = false := by simp; omega
    by_cases h3 : 16 < deep
    · have e2 : decide (16 < deep) = true := by simp; omega
      go_enter Try.func132, Try.ntmps132
      go_wp2
      go_ret
      have h2 := HR.out
      rw [if_pos (.inr h3)] at h2
      exact ⟨by rw [h2]; rfl, by rw [h2]; exact hbox.out, hgr⟩
    · have e2 : decide (16 < deep) = false := by simp; omega
      have h2 := HR.out
      rw [if_neg (by omega)] at h2
      replace h2 := Q.mk h2
      clear HR
      go_enter Try.func132, Try.ntmps132
      go_wp2_with fail
      go_loopw [7, 28] (fun v7 v28 wr => ∃ (j : Nat) (mo nn : Int), j ≤ items.length ∧ v28 = .int .i64 j ∧ v7 = .int .i64 mo ∧ Q (wr.heap[g]? = some (.cells #[.int .i64 nn] 3 (0, 0))) ∧ w.grownBy wr (some g) ∧ Q (res = cntL (items.drop j) deep nn mo) ∧ 0 ≤ nn ∧ nn ≤ 4096 ∧ w.heap.size < wr.heap.size)
        (fun _ v28 _ => items.length - (intOf v28).toNat)
      case atStart => exact ⟨0, deep, nodes + 1, Nat.zero_le _, rfl, rfl, hbox, hgr, h2, by omega, by omega, by simp⟩
      case round =>
        clear h2 hbox hgr
        obtain ⟨j, mo, nn, hj, rfl, rfl, hb, hg3, HS, hn2, hn3, hwl⟩ := hrel
        have c1 := cell_of_one hb.out
        have c2 := free_of_one hb.out
        by_cases hlt : j < items.length
        · obtain ⟨b, o, k', n', m', t', items', A', c', rfl, hbN, hx, ht', hc', hr', x0, x1, x2, x3, x4⟩ := (hr.out.loc (Same.grown hg3 (by omega) (fun g' e => by cases e; exact .inr (Nat.le_refl _)))).atV j hlt
          have hsz := Val.items_lt hlt hx
          have hdrop : items.drop j = .mk k' n' m' t' items' :: items.drop (j + 1) := by rw [List.drop_eq_getElem_cons hlt, hx]
          have HS2 := HS.out
          rw [hdrop] at HS2
          simp only [cntL] at HS2
          have hbd := cntV_bd (.mk k' n' m' t' items') (deep + 1) nn hn3
          obtain ⟨p, hp⟩ : ∃ p, p = cntV (.mk k' n' m' t' items') (deep + 1) nn := ⟨_, rfl⟩
          rw [← hp] at HS2 hbd
          have hgl2 := box_lt hb.out
          replace hp := Q.mk hp
          replace hx := Q.mk hx
          replace hdrop := Q.mk hdrop
          replace hr' := Q.mk hr'
          obtain ⟨q, hq⟩ : ∃ q, q = max mo p.1 := ⟨_, rfl⟩
          have hq' : max mo p.1 = q := hq.symm
          rw [← hq] at HS2
          replace HS2 := Q.mk HS2
          replace hq := Q.mk hq
          by_cases hq1 : 4096 < p.2
          · have f1 : decide (4096 < p.2) = true := by simp; omega
            go_wp2_with (go_at_call 132; refine (IH.out k' n' m' t' items' A' c' (deep + 1) nn g _ (by omega) (hr'.out.alloc (by omega) _) hc' (by omega) (by omega) hn2 hn3 (box_alloc hb.out _)).mono ?_; rw [← hp.out]; rintro e w2 ⟨rfl, hg4, hg5⟩; have c3 := cell_of_one hg4; have HG4 := Q.mk hg4; clear hg4)
            go_ret
            have h5 := HS2.out
            rw [if_pos (.inl hq1)] at h5
            exact ⟨by rw [h5]; rfl, by rw [h5]; exact HG4.out, hg3.trans ((World.grownBy_alloc _ _ _).trans hg5)⟩
          · have f1 : decide (4096 < p.2) = false := by simp; omega
            by_cases hq2 : 16 < q
            · have f2 : decide (16 < q) = true := by simp; omega
              go_wp2_with (go_at_call 132; refine (IH.out k' n' m' t' items' A' c' (deep + 1) nn g _ (by omega) (hr'.out.alloc (by omega) _) hc' (by omega) (by omega) hn2 hn3 (box_alloc hb.out _)).mono ?_; rw [← hp.out]; rintro e w2 ⟨rfl, hg4, hg5⟩; have c3 := cell_of_one hg4; have HG4 := Q.mk hg4; clear hg4)
              go_ret
              have h5 := HS2.out
              rw [if_pos (.inr hq2)] at h5
              exact ⟨by rw [h5]; rfl, by rw [h5]; exact HG4.out, hg3.trans ((World.grownBy_alloc _ _ _).trans hg5)⟩
            · have f2 : decide (16 < q) = false := by simp; omega
              go_wp2_with (go_at_call 132; refine (IH.out k' n' m' t' items' A' c' (deep + 1) nn g _ (by omega) (hr'.out.alloc (by omega) _) hc' (by omega) (by omega) hn2 hn3 (box_alloc hb.out _)).mono ?_; rw [← hp.out]; rintro e w2 ⟨rfl, hg4, hg5⟩; have c3 := cell_of_one hg4; have HG4 := Q.mk hg4; clear hg4)
              have h5 := HS2.out
              rw [if_neg (by omega)] at h5
              have hsz2 := hg5.size
              go_roundw
              case rel => exact ⟨j + 1, q, p.2, by omega, rfl, by go_num, HG4, hg3.trans ((World.grownBy_alloc _ _ _).trans hg5), ⟨h5⟩, by omega, by omega, by simp at hsz2; omega⟩
              case measure => simp [intOf]; omega
        · go_wp2
          go_ret
          have h5 := HS.out
          rw [List.drop_eq_nil_of_le (by omega)] at h5
          simp only [cntL] at h5
          exact ⟨by rw [h5]; rfl, by rw [h5]; exact hb.out, hg3⟩
end Go.Proofs.Ytifakbipdmceiaa
