import Derived.Test.YtifakbipdmceiaaJLawA16
import Derived.Test.YtifakbipdmceiaaJLawA27
import Derived.Test.YtifakbipdmceiaaJLawA14
set_option linter.unusedVariables false
set_option linter.unusedSimpArgs false
namespace Go.Proofs.Ytifakbipdmceiaa
open Go.RowKit

/-! ### two rows that grow by turns: one of events, one of names -/
structure Two (N0 M : Nat) (w : World) (u v : Value) (xs : List Ev) (ys : List ByteArray) : Prop where
  nm : N0 ≤ M
  mw : M ≤ w.heap.size
  lx : xs.length * 144 ≤ 140737488355328
  ex : ∃ (S : Nat → Prop) (cs : List Value), w.ownsRow M 37 12 u xs.length cs ∧ (∀ g, u.ownBlock = some g → g < w.heap.size ∧ ¬ S g) ∧ (∀ b, S b → b < N0 ∨ (M ≤ b ∧ b < w.heap.size)) ∧
    (∀ w' : World, (∀ b, S b → w'.heap[b]? = w.heap[b]?) → CellsOf eEl 0 w.heap.size w' xs cs) ∧ (∀ g, v.ownBlock = some g → ¬ S g ∧ u.ownBlock ≠ some g)
  ly : ys.length * 16 ≤ 140737488355328
  sy : ∀ s ∈ ys, s.size ≤ 140737488355328
  oy : w.ownsRow M 9 1 v ys.length (ys.map Value.string)
theorem ownsRow_lt {w : World} {B : Nat} {e : TypeId} {size : Nat} {v : Value} {n : Nat} {xs : List Value} (h : w.ownsRow B e size v n xs) {g : Nat} (hg : v.ownBlock = some g) : B ≤ g ∧ g < w.heap.size := by
  have h1 := h.lt g hg
  refine ⟨h1.1, ?_⟩
  rcases h.2 with ⟨rfl, _⟩ | ⟨g', cap, cur, rfl, hb, hh, _⟩
  · simp [Value.ownBlock] at hg
  · have : g' = g := by simpa [Value.ownBlock] using hg
    subst this
    exact box_lt hh
section
variable {N0 M : Nat} {w w1 : World} {u v v2 : Value} {xs : List Ev} {ys ys2 : List ByteArray}
theorem Two.start (h : OwnR eEl 37 N0 M w.heap.size w u xs) (hM : M ≤ w.heap.size) : Two N0 M w u (.slice none 0 0) xs [] := by
  obtain ⟨h1, h2, h3, cs, S, h4, h5, h6, h7⟩ := h
  exact ⟨h1, hM, h3, ⟨S, cs, h4, h5, h6, h7, fun g hg => by simp [Value.ownBlock] at hg⟩, by simp, fun s hs => (by cases hs), World.ownsRow_nil _ _ _ _⟩
theorem Two.rowE (h : Two N0 M w u v xs ys) : OwnR eEl 37 N0 M w.heap.size w u xs := by
  obtain ⟨S, cs, h4, h5, h6, h7, _⟩ := h.ex
  exact ⟨h.nm, Nat.le_refl _, h.lx, cs, S, h4, h5, h6, h7⟩
theorem cells_names (B N : Nat) (w : World) (ys : List ByteArray) (hs : ∀ s ∈ ys, s.size ≤ 140737488355328) : CellsOf sEl B N w ys (ys.map Value.string) := by
  refine ⟨by simp [sEl], fun j x hj => ?_⟩
  have hlt : j < ys.length := by
    rcases Nat.lt_or_ge j ys.length with h | h
    · exact h
    · rw [List.getElem?_eq_none h] at hj; cases hj
  refine ⟨hs x (List.mem_of_getElem? hj), ?_⟩
  have hx : ys[j] = x := by rw [List.getElem?_eq_getElem hlt] at hj; exact Option.some.inj hj
  show ((ys.map Value.string).drop (j * 1)).take 1 = [Value.string x]
  rw [Nat.mul_one, List.drop_eq_getElem_cons (by simpa using hlt)]
  simp [hx]
theorem Two.names (h : Two N0 M w u v xs ys) : Own sEl 9 M w.heap.size w v ys :=
  ⟨Nat.le_refl _, h.ly, ys.map Value.string, fun _ => False, h.oy, fun g hg => ⟨(ownsRow_lt h.oy hg).2, fun h => h⟩, fun b hb => hb.elim, fun w' _ => cells_names M w.heap.size w' ys h.sy⟩
theorem own_names {B N : Nat} (h : Own sEl 9 B N w v ys) : (∀ s ∈ ys, s.size ≤ 140737488355328) ∧ w.ownsRow B 9 1 v ys.length (ys.map Value.string) := by
  obtain ⟨h1, h2, cs, S, h3, h4, h5, h6⟩ := h
  have hc := h6 w fun _ _ => rfl
  have key : ∀ j (hj : j < ys.length), ys[j].size ≤ 140737488355328 ∧ cs[j]? = some (Value.string ys[j]) := by
    intro j hj
    have h7 := hc.2 j ys[j] (by simp [hj])
    have h8 : ys[j].size ≤ 140737488355328 ∧ (cs.drop (j * 1)).take 1 = [Value.string ys[j]] := h7
    refine ⟨h8.1, ?_⟩
    have h9 := congrArg (fun l => l[0]?) h8.2
    simpa using h9
  refine ⟨fun s hs => ?_, ?_⟩
  · obtain ⟨j, hj, rfl⟩ := List.getElem_of_mem hs
    exact (key j hj).1
  · have : cs = ys.map Value.string := by
      refine List.ext_getElem? fun j => ?_
      rcases Nat.lt_or_ge j ys.length with hj | hj
      · rw [(key j hj).2]; simp [hj]
      · have hl : cs.length = ys.length * 1 := hc.1
        rw [List.getElem?_eq_none (by omega), List.getElem?_eq_none (by simpa using hj)]
    rw [← this]
    exact h3
theorem Two.below (h : Two N0 M w u v xs ys) {K : Nat} (hb : Below K w w1) (hK : w.heap.size ≤ K) : Two N0 M w1 u v xs ys := by
  obtain ⟨S, cs, h4, h5, h6, h7, h8⟩ := h.ex
  have hz := hb.size
  have hm := h.mw
  have hn := h.nm
  have hS : ∀ b, S b → w1.heap[b]? = w.heap[b]? := fun b hb' => hb.block b (by have := h6 b hb'; omega)
  refine ⟨hn, by omega, h.lx, ⟨S, cs, ownsRow_block h4 fun g hg => hb.block g (by have := h5 g hg; omega), fun g hg => ⟨by have := (h5 g hg).1; omega, (h5 g hg).2⟩, fun b hb' => by have := h6 b hb'; omega, fun w' hw' => ?_, h8⟩, h.ly, h.sy, ownsRow_block h.oy fun g hg => hb.block g (by have := ownsRow_lt h.oy hg; omega)⟩
  exact (h7 w' fun b hb' => (hw' b hb').trans (hS b hb')).mono (Nat.le_refl _) hz
theorem Two.named (h : Two N0 M w u v xs ys) (hg : w.grownBy w1 v.ownBlock) (ho : Own sEl 9 M w1.heap.size w1 v2 ys2) (hat : ∀ g, v2.ownBlock = some g → v.ownBlock = some g ∨ w.heap.size ≤ g) : Two N0 M w1 u v2 xs ys2 := by
  obtain ⟨S, cs, h4, h5, h6, h7, h8⟩ := h.ex
  have hz := hg.size
  have hm := h.mw
  have hn := h.nm
  have hSl : ∀ b, S b → b < w.heap.size := fun b hb => by have := h6 b hb; omega
  have hS : ∀ b, S b → w1.heap[b]? = w.heap[b]? := fun b hb => hg.block b (hSl b hb) fun e => (h8 b e.symm).1 hb
  obtain ⟨s1, s2⟩ := own_names ho
  refine ⟨hn, by omega, h.lx, ⟨S, cs, ownsRow_block h4 fun g hg' => hg.block g (h5 g hg').1 fun e => (h8 g e.symm).2 hg', fun g hg' => ⟨by have := (h5 g hg').1; omega, (h5 g hg').2⟩, fun b hb => by have := h6 b hb; omega, fun w' hw' => ?_, fun g hg' => ?_⟩, ho.2.1, s1, s2⟩
  · exact (h7 w' fun b hb => (hw' b hb).trans (hS b hb)).mono (Nat.le_refl _) hz
  · rcases hat g hg' with h9 | h9
    · exact h8 g h9
    · exact ⟨fun hb => by have := hSl g hb; omega, fun e => by have := (h5 g e).1; omega⟩
end

section
variable {P : Program}
theorem wp_appendT (w0 w : World) {o : Oper} {a : Act} {K : Act → World → Prop} {Q : Exit → Act → World → Prop} (s x : Operand) (t : TypeId)
    (ho : o.op = .call { callee := .builtin .append, args := #[s, x], argTypes := #[t, t] }) {z : Value}
    (ht : P.underlying t = some (.slice 37)) (hi : (P.info? 37).map (fun i => (i.zero, i.size, i.bytes)) = some (some z, 12, 144)) (hzs : z.cells.size = 12)
    {N0 M B1 N' H : Nat} {u v : Value} {xs : List Ev} {ys : List ByteArray} {y : Ev} {ycs : Array Value} (hs : a.eval s = u) (hx : a.eval x = .slice (some ⟨H, 0, none⟩) 1 1) (hbox : w.heap[H]? = some (.cells ycs 37 (0, 0)))
    (HT : Two N0 M w0 u v xs ys) (hb : Below w0.heap.size w0 w) (hy : eEl.R B1 N0 w y ycs.toList ∨ eEl.R w0.heap.size N' w y ycs.toList) (hN' : N' ≤ w.heap.size) (hl : (xs.length + 1) * 144 ≤ 140737488355328)
    (h : ∀ g c w', Two N0 M w' (.slice (some ⟨g, 0, none⟩) (xs.length + 1) c) v (xs ++ [y]) ys → w.grownBy w' u.ownBlock → K (a.put o.dst (.slice (some ⟨g, 0, none⟩) (xs.length + 1) c)) w') :
    o.wp P a w K Q := by
  obtain ⟨S, cs, h4, h5, h6, h7, h8⟩ := HT.ex
  have hz0 := hb.size
  have hm := HT.mw
  have hn := HT.nm
  obtain ⟨i, hi0, hzz, hz1, hz2⟩ := info_parts hi
  have hyl : ycs.toList.length = 12 := by rcases hy with hy | hy <;> exact eEl.len _ _ _ _ _ hy
  have hy1 : ∀ c ∈ ycs.toList, c.oneCell' = true := by rcases hy with hy | hy <;> exact eEl.one _ _ _ _ _ hy
  obtain ⟨T, hT1, hT2, hyT⟩ : ∃ T : Nat → Prop, (∀ b, T b → b < w.heap.size) ∧ (∀ b, T b → b < N0 ∨ w0.heap.size ≤ b) ∧ ∀ w', (∀ b, T b → w'.heap[b]? = w.heap[b]?) → ∀ N, w.heap.size ≤ N → eEl.R 0 N w' y ycs.toList := by
    rcases hy with hy | hy
    · exact ⟨fun b => B1 ≤ b ∧ b < N0, fun b hb => by omega, fun b hb => .inl hb.2, fun w' hw' N hN => eEl.mono _ _ _ _ _ (eEl.loc _ _ _ _ _ hy w' fun b h1 h2 => hw' b ⟨h1, h2⟩) _ _ (Nat.zero_le _) (by omega)⟩
    · exact ⟨fun b => w0.heap.size ≤ b ∧ b < N', fun b hb => by omega, fun b hb => .inr hb.1, fun w' hw' N hN => eEl.mono _ _ _ _ _ (eEl.loc _ _ _ _ _ hy w' fun b h1 h2 => hw' b ⟨h1, h2⟩) _ _ (Nat.zero_le _) (by omega)⟩
  have hSl : ∀ b, S b → b < w0.heap.size := fun b hb => by have := h6 b hb; omega
  refine wp_append_lies w s x t ho M 37 i z 12 144 ht hi0 hzz hz1 hz2 hzs (by decide) u xs.length cs hs (ownsRow_block h4 fun g hg => hb.block g (h5 g hg).1) ⟨H, 0, none⟩ 1 1 ycs.toList hx (by simpa using hyl)
    (World.news_of_block hbox) hy1 (by omega) (by unfold maxLen; omega) hl (by omega) w.heap.size rfl ?_
  intro g c w' hown hg hat hgl
  have hz := hg.size
  have hyo : w'.ownsRow M 9 1 v ys.length (ys.map Value.string) := ownsRow_block HT.oy fun g' hg' => by
    have h9 := ownsRow_lt HT.oy hg'
    exact (hg.block g' (by omega) fun e => (h8 g' hg').2 e.symm).trans (hb.block g' h9.2)
  have key : ∀ b, S b → w'.heap[b]? = w0.heap[b]? := fun b hb' => (hg.block b (by have := hSl b hb'; omega) fun e => (h5 b e.symm).2 hb').trans (hb.block b (hSl b hb'))
  have keyT : ∀ b, T b → w'.heap[b]? = w.heap[b]? := fun b hb' => hg.block b (hT1 b hb') fun e => by
    have h9 := h5 b e.symm
    have h10 := ownsRow_lt h4 (g := b) e.symm
    rcases hT2 b hb' with h11 | h11 <;> omega
  refine h g c w' ⟨hn, by omega, by rw [List.length_append]; simpa using hl, ⟨fun b => S b ∨ T b, cs ++ ycs.toList, by rw [List.length_append]; exact hown, fun g' hg' => ?_, fun b hb' => ?_, fun w'' hw'' => ?_, fun gv hgv => ?_⟩, HT.ly, HT.sy, hyo⟩ hg
  · obtain rfl : g = g' := by simpa [Value.ownBlock] using hg'
    refine ⟨hgl, ?_⟩
    rcases hat with hat | rfl
    · have h9 := h5 g hat
      have h10 := ownsRow_lt h4 (g := g) hat
      rintro (h11 | h11)
      · exact h9.2 h11
      · have := hT2 g h11; omega
    · rintro (h11 | h11)
      · have := hSl _ h11; omega
      · have := hT1 _ h11; omega
  · rcases hb' with h11 | h11
    · have := h6 b h11; omega
    · have h12 := hT1 b h11
      have := hT2 b h11; omega
  · exact ((h7 w'' fun b hb' => (hw'' b (.inl hb')).trans (key b hb')).mono (Nat.le_refl _) (by omega)).snoc (hyT w'' (fun b hb' => (hw'' b (.inr hb')).trans (keyT b hb')) _ hz)
  · have h9 := ownsRow_lt HT.oy hgv
    refine ⟨?_, fun e => ?_⟩
    · rintro (h11 | h11)
      · exact (h8 gv hgv).1 h11
      · have := hT2 gv h11; omega
    · obtain rfl : g = gv := by simpa [Value.ownBlock] using e
      rcases hat with hat | rfl
      · exact (h8 g hgv).2 hat
      · omega
theorem wpList_appendT (w0 w : World) {ops : Array Oper} {rest : List Oper} {o : Oper} {a : Act} {Q : Exit → Act → World → Prop} (hgd : o.guard = none) (s x : Operand) (t : TypeId)
    (ho : o.op = .call { callee := .builtin .append, args := #[s, x], argTypes := #[t, t] }) {z : Value}
    (ht : P.underlying t = some (.slice 37)) (hi : (P.info? 37).map (fun i => (i.zero, i.size, i.bytes)) = some (some z, 12, 144)) (hzs : z.cells.size = 12)
    {N0 M B1 N' H : Nat} {u v : Value} {xs : List Ev} {ys : List ByteArray} {y : Ev} {ycs : Array Value} (hs : a.eval s = u) (hx : a.eval x = .slice (some ⟨H, 0, none⟩) 1 1) (hbox : w.heap[H]? = some (.cells ycs 37 (0, 0)))
    (HT : Two N0 M w0 u v xs ys) (hb : Below w0.heap.size w0 w) (hy : eEl.R B1 N0 w y ycs.toList ∨ eEl.R w0.heap.size N' w y ycs.toList) (hN' : N' ≤ w.heap.size) (hl : (xs.length + 1) * 144 ≤ 140737488355328)
    (h : ∀ g c w', Two N0 M w' (.slice (some ⟨g, 0, none⟩) (xs.length + 1) c) v (xs ++ [y]) ys → w.grownBy w' u.ownBlock → wpList P ops Q rest (a.put o.dst (.slice (some ⟨g, 0, none⟩) (xs.length + 1) c)) w') :
    wpList P ops Q (o :: rest) a w :=
  wpList_plain hgd fun _ hK => wp_appendT w0 w s x t ho ht hi hzs hs hx hbox HT hb hy hN' hl fun g c w' h2 h3 => hK _ _ (h g c w' h2 h3)
end

set_option maxHeartbeats 2000000 in
set_option maxRecDepth 100000 in
theorem once_grown (xs : List ByteArray) (s : ByteArray) (A : Option Addr) (c B N : Nat) (w : World) (hO0 : Own sEl 9 B N w (.slice A xs.length c) xs) (hBN : B ≤ N) (hB0 : B ≤ w.heap.size) (hc : xs.length ≤ c) (hs : s.size ≤ 140737488355328) (hl : (xs.length + 1) * 16 ≤ 140737488355328) :
    Calls Try.prog 71 #[.slice A xs.length c, .string s] w fun e w' => ∃ v2, e = .returned v2 ∧ Own sEl 9 B w'.heap.size w' v2 (onceP xs s) ∧ w.grownBy w' (Value.slice A xs.length c).ownBlock ∧ ∀ g, v2.ownBlock = some g → (Value.slice A xs.length c).ownBlock = some g ∨ w.heap.size ≤ g := by
  have hO := Q.mk hO0
  obtain ⟨A9, c9, h9, hc9, hr9⟩ := hO0.row
  cases h9
  have hr := Q.mk hr9
  have hN := hO0.1
  clear hO0 hr9
  obtain ⟨r, hr'⟩ : ∃ r, r = inS s xs := ⟨_, rfl⟩
  have hR0 : Q (r = inS s (xs.drop 0)) := ⟨by rw [hr']; rfl⟩
  replace hr' := Q.mk hr'
  go_enter Try.func71, Try.ntmps71
  go_wp2_with fail
  go_loop [5] (fun i => ∃ j : Nat, j ≤ xs.length ∧ i = .int .i64 j ∧ Q (r = inS s (xs.drop j))) (fun i => xs.length - (intOf i).toNat)
  case atStart => exact ⟨0, Nat.zero_le _, rfl, hR0⟩
  case round =>
    clear hR0
    obtain ⟨j, hj, rfl, hR⟩ := hrel
    by_cases hlt : j < xs.length
    · obtain ⟨b, o, rfl, hBb, hNb, hss, x0⟩ := hr.out.atS j hlt
      obtain ⟨y, hy⟩ : ∃ y, y = xs[j] := ⟨_, rfl⟩
      rw [← hy] at x0
      have HS := hR.out
      rw [List.drop_eq_getElem_cons hlt, ← hy, inS, List.any_cons] at HS
      cases h1 : decide (y = s)
      · have t1 : (y.toList == s.toList) = false := by rw [sEq, h1]
        have HR : Q (r = inS s (xs.drop (j + 1))) := ⟨by rw [HS, h1]; rfl⟩
        clear h1 HS hy
        go_wp2
        go_round
        case rel => exact ⟨j + 1, by omega, by go_num, HR⟩
        case measure => simp [intOf] <;> omega
      · have t1 : (y.toList == s.toList) = true := by rw [sEq, h1]
        have HR : Q (r = true) := ⟨by rw [HS, h1]; rfl⟩
        clear h1 HS hy
        go_wp2
        go_ret
        refine ⟨_, rfl, ?_, grownBy_refl _ _, fun g hg => .inl hg⟩
        rw [onceP, ← hr'.out, HR.out]
        exact hO.out.widen hN (Nat.le_refl _)
    · have HR : Q (r = false) := ⟨by rw [hR.out, List.drop_eq_nil_of_le (by omega)]; rfl⟩
      go_wp2_with (at_builtin; (refine wpList_append1 _ rfl sEl (.tmp 19) (.tmp 21) 26 9 rfl Try.underlying26 infoS rfl (B := B) (N := N) (B' := N) (N' := N) (y := s) B (by rfl) (by rfl) (heap_alloc_new _ _) (hO.out.alloc _) ⟨hs, rfl⟩ (Or.inl (Nat.le_refl _)) (by simp; omega) (Nat.le_refl _) hBN (by simp; omega) (by decide) (by simp only [sEl]; omega) ?_); intro g1 c1 w4 hO4 hg4 hat4)
      go_ret
      refine ⟨_, rfl, ?_, (World.grownBy_alloc _ _ _).trans hg4, fun g hg => ?_⟩
      · rw [onceP, ← hr'.out, HR.out]
        exact hO4
      · obtain rfl : g1 = g := by simpa [Value.ownBlock] using hg
        rcases hat4 with h9 | h9
        · exact .inl h9
        · right; rw [h9]; simp
end Go.Proofs.Ytifakbipdmceiaa
