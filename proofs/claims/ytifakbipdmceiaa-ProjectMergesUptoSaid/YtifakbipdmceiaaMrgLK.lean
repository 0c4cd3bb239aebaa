import Derived.Test.YtifakbipdmceiaaRefMrg2K
import Derived.Test.YtifakbipdmceiaaJLawA34
set_option linter.unusedVariables false
set_option linter.unusedSimpArgs false
namespace Go.Proofs.Ytifakbipdmceiaa
open Go.RowKit Go.Proofs.YtifakbipdmceiaaW.PrintLast

set_option maxHeartbeats 4000000 in
set_option maxRecDepth 100000 in
theorem Merges_ref (x y : List Ev) (Ax Ay : Option Addr) (cx cy B0 N0 : Nat) (w : World) (hx0 : Row eEl B0 N0 w Ax x) (hy0 : Row eEl B0 N0 w Ay y) (hN : N0 ≤ w.heap.size) (hcx : x.length ≤ cx) (hcy : y.length ≤ cy) (hl : (x.length + y.length) * 144 ≤ 140737488355328) :
    Calls Try.prog 35 #[.slice Ax x.length cx, .slice Ay y.length cy, .int .i64 200] w fun e w' => ∃ A c, e = .returned (.slice A ((mergesL [] x y).take 200).length c) ∧ Row rEl 0 w'.heap.size w' A ((mergesL [] x y).take 200) ∧ Below w.heap.size w w' := by
  obtain ⟨W0, hW0, b0, BB, Z⟩ := boxes1 w (.cells #[.slice none 0 0] 46)
  have hO : OutV N0 w.heap.size W0 none 0 [] := by
    refine ⟨hN, by omega, Nat.le_refl _, b0.out, ?_⟩
    exact OwnR.nil _ _ _ _ _ (by omega)
  have HM := Q.mk (mrg_any _ x y [] Ax Ay none none cx cy 0 0 B0 N0 w.heap.size 200 [] W0 (Nat.le_refl _) (hx0.below BB hN) (hy0.below BB hN) (PRow.nil N0 W0) (fun b h => by cases h) (by omega) hcx hcy (Nat.le_refl _) (by simpa using hl) hO (Nat.zero_le _) (Nat.le_refl _))
  have hB := Q.mk BB
  clear hx0 hy0 hO
  go_enter Try.func35, Try.ntmps35
  go_wp2_with (go_at_call 87; rw [← hW0]; clear hW0; refine HM.out.mono ?_; rintro e W2 ⟨he, A2, c2, hO2, hC2⟩; (obtain rfl : e = .returned (.tuple #[]) := he); have d0 := box_cells hO2.at_ 0; replace hO2 := Q.mk hO2)
  go_ret
  refine ⟨A2, c2, by rw [List.length_take]; rfl, ?_, hB.out.trans hC2.low⟩
  obtain ⟨A3, c3, h1, _, h3⟩ := hO2.out.own.row
  obtain ⟨rfl, rfl⟩ : A2 = A3 ∧ c2 = c3 := by simpa using h1
  exact h3

/-- The deferred calls are marks, each of its own block. -/
def Marks (M : Nat) (ds : List Deferred) (W : World) : Prop :=
  ∃ Ds : List Nat, ds = Ds.map (fun D => { target := .collected D, args := #[] }) ∧ Ds.Nodup ∧ ∀ D ∈ Ds, M ≤ D ∧ D < W.heap.size ∧ W.heap[D]? = some (.deferred (some []))
theorem Marks.nil (M : Nat) (W : World) : Marks M [] W := ⟨[], rfl, List.nodup_nil, fun _ h => by cases h⟩
theorem Marks.keep {M : Nat} {ds : List Deferred} {W W' : World} (h : Marks M ds W) (hz : W.heap.size ≤ W'.heap.size) (hs : ∀ b, M ≤ b → b < W.heap.size → W.heap[b]? = some (.deferred (some [])) → W'.heap[b]? = W.heap[b]?) : Marks M ds W' := by
  obtain ⟨Ds, h1, h2, h3⟩ := h
  refine ⟨Ds, h1, h2, fun D hD => ?_⟩
  obtain ⟨a, b, c⟩ := h3 D hD
  exact ⟨a, by omega, (hs D a b c).trans c⟩
theorem Marks.cons {M D : Nat} {ds : List Deferred} {W W' : World} (h : Marks M ds W) (hM : M ≤ D) (hD : W.heap.size ≤ D) (hk : W'.heap[D]? = some (.deferred (some []))) (hm : Marks M ds W') : Marks M ({ target := .collected D, args := #[] } :: ds) W' := by
  obtain ⟨Ds, h1, h2, h3⟩ := h
  obtain ⟨Ds', h1', _, h3'⟩ := hm
  have e : Ds' = Ds := by
    rw [h1] at h1'
    exact (List.map_inj_right (fun a b h => by simpa using h)).1 h1'.symm
  subst e
  refine ⟨D :: Ds', by rw [h1]; rfl, List.nodup_cons.2 ⟨fun hm => by have := (h3 D hm).2.1; omega, h2⟩, fun d hd => ?_⟩
  rcases List.mem_cons.1 hd with rfl | hd
  · exact ⟨hM, box_lt hk, hk⟩
  · exact h3' d hd
theorem leaves_marks {P : Program} {F : Fence} {n M : Nat} {fn : Func} {tmps : Array Value} {R : Ending → World → Prop} : ∀ (Ds : List Nat) (W : World), Ds.Nodup → (∀ D ∈ Ds, M ≤ D ∧ D < W.heap.size ∧ W.heap[D]? = some (.deferred (some []))) →
    (∀ W', W'.heap.size = W.heap.size → Below M W W' → LeavesIn F n P fn tmps R [] .returning W') → LeavesInM F n P fn tmps R (Ds.map (fun D => { target := .collected D, args := #[] })) .returning W
  | [], W, _, _, h => h W rfl (Below.refl _ _)
  | D :: Ds, W, hn, hM, h => by
    obtain ⟨h1, h2, h3⟩ := hM D (List.mem_cons_self ..)
    refine ⟨by simp, .inl ⟨_, _, rfl, run_takeDeferred h3, ?_⟩⟩
    have hb : Below M W (W.putObj D (.deferred none)) := (Below.refl M W).grown (grownBy_putObj' W D _) (by omega) (fun k e => by cases e; exact h1)
    have hsz : (W.putObj D (.deferred none)).heap.size = W.heap.size := by simp [World.putObj]
    refine leaves_marks Ds _ (List.nodup_cons.1 hn).2 (fun d hd => ?_) (fun W' e hb' => h W' (by omega) (hb.trans hb'))
    obtain ⟨k1, k2, k3⟩ := hM d (List.mem_cons_of_mem _ hd)
    exact ⟨k1, by omega, (World.putObj_heap_other (fun e => (List.nodup_cons.1 hn).1 (by first | (rw [← e]; exact hd) | (rw [e]; exact hd)))).trans k3⟩

/-- A row of events that may be written all over. -/
def Soft (M n : Nat) (A : Option Addr) (w : World) : Prop :=
  n = 0 ∨ ∃ g o cur t, A = some ⟨g, o, none⟩ ∧ M ≤ g ∧ g < w.heap.size ∧ w.heap[g]? = some (.cells cur t (0, 0)) ∧ o + n * 12 ≤ cur.size
theorem Own.soft {e : TypeId} {B N c n : Nat} {w : World} {A : Option Addr} {xs : List Ev} (h : Own eEl e B N w (.slice A n c) xs) (hn : xs.length = n) : Soft B n A w := by
  subst hn
  obtain ⟨hN, hl, cs, S, ⟨hcl, hrow⟩, h3, h4, h5⟩ := h
  rcases hrow with ⟨_, h0⟩ | ⟨g, cap, cur, hv, hb, hg, hn, _, hcs, _⟩
  · exact .inl h0
  · obtain ⟨rfl, _⟩ : A = some ⟨g, 0, none⟩ ∧ c = cap := by simpa using hv
    refine .inr ⟨g, 0, cur, _, rfl, hb, box_lt hg, hg, ?_⟩
    rw [hcs, Nat.zero_add]
    exact Nat.mul_le_mul_right _ hn
/-- A row that is written all over; all else stays. -/
structure SK (B n : Nat) (A : Option Addr) (w w' : World) : Prop where
  soft : Soft B n A w'
  kept : Kept (fun b => ablk A ≠ some b) w w'
theorem SK.set {B n g o : Nat} {w w' : World} (h : SK B n (some ⟨g, o, none⟩) w w') (k : Nat) (v : Value) : SK B n (some ⟨g, o, none⟩) w (w'.setCell ⟨g, k, none⟩ v) := by
  refine ⟨?_, h.kept.setCell (p := ⟨g, k, none⟩) (fun hx => hx rfl) v⟩
  rcases h.soft with h1 | ⟨g', o', cur, t, h1, h2, h3, h4, h5⟩
  · exact .inl h1
  · cases h1
    exact .inr ⟨g, o, _, t, rfl, h2, by rw [size_set]; exact h3, box_set h4 k v, by simpa using h5⟩
theorem Soft.below {B n : Nat} {A : Option Addr} {w w1 : World} (h : Soft B n A w) (hb : Below w.heap.size w w1) : Soft B n A w1 := by
  rcases h with h1 | ⟨g', o', cur, t, h1, h2, h3, h4, h5⟩
  · exact .inl h1
  · exact .inr ⟨g', o', cur, t, h1, h2, Nat.lt_of_lt_of_le h3 hb.size, hb.box h4 h3, h5⟩
theorem Soft.at {B n : Nat} {A : Option Addr} {w : World} (h : Soft B n A w) {j : Nat} (hj : j < n) : ∃ g o, A = some ⟨g, o, none⟩ ∧ g < w.heap.size ∧ (∀ i, w.frozen? ⟨g, i, none⟩ = false) ∧ ∃ u0 u1 u2 u3 u4 u5 u6 u7 u8 u9 u10 u11, w.cell? ⟨g, o + j * 12, none⟩ = some u0 ∧ w.cell? ⟨g, o + j * 12 + 1, none⟩ = some u1 ∧ w.cell? ⟨g, o + j * 12 + 2, none⟩ = some u2 ∧ w.cell? ⟨g, o + j * 12 + 3, none⟩ = some u3 ∧ w.cell? ⟨g, o + j * 12 + 4, none⟩ = some u4 ∧ w.cell? ⟨g, o + j * 12 + 5, none⟩ = some u5 ∧
    w.cell? ⟨g, o + j * 12 + 6, none⟩ = some u6 ∧ w.cell? ⟨g, o + j * 12 + 7, none⟩ = some u7 ∧ w.cell? ⟨g, o + j * 12 + 8, none⟩ = some u8 ∧ w.cell? ⟨g, o + j * 12 + 9, none⟩ = some u9 ∧ w.cell? ⟨g, o + j * 12 + 10, none⟩ = some u10 ∧ w.cell? ⟨g, o + j * 12 + 11, none⟩ = some u11 := by
  rcases h with h1 | ⟨g, o, cur, t, h1, h2, h3, h4, h5⟩
  · omega
  · have hlt : ∀ i, i < 12 → o + j * 12 + i < cur.size := fun i hi => by omega
    have hc : ∀ i (hi : i < 12), w.cell? ⟨g, o + j * 12 + i, none⟩ = some (cur[o + j * 12 + i]'(hlt i hi)) := fun i hi => (box_cells h4 _).trans (Array.getElem?_eq_getElem (hlt i hi))
    exact ⟨g, o, h1, h3, fun i => box_free h4 i, _, _, _, _, _, _, _, _, _, _, _, _, hc 0 (by omega), hc 1 (by omega), hc 2 (by omega), hc 3 (by omega), hc 4 (by omega), hc 5 (by omega), hc 6 (by omega), hc 7 (by omega), hc 8 (by omega), hc 9 (by omega), hc 10 (by omega), hc 11 (by omega)⟩
theorem pre_at {pre : List VR} {v : Value} {q : List Ev} {M : List (List Ev)} (h : (pre ++ [(v, q)]).map Prod.snd <+: M) (hn : pre.length < 200) : (M.take 200)[pre.length]? = some q := by
  obtain ⟨r, rfl⟩ := h
  rw [List.getElem?_take, if_pos hn]
  simp
end Go.Proofs.Ytifakbipdmceiaa
