import Derived.Test.YtifakbipdmceiaaJLawA23
import Derived.Test.YtifakbipdmceiaaJLawA9
import Derived.Test.YtifakbipdmceiaaJLawA14
import Derived.Test.YtifakbipdmceiaaWLast
import Derived.Laws.StructEq
set_option linter.unusedVariables false
set_option linter.unusedSimpArgs false
namespace Go.Proofs.Ytifakbipdmceiaa
open Go.RowKit Go.Proofs.YtifakbipdmceiaaW.PrintLast

def neSpot (x y : Ev) : Bool := !(x.a == y.a && x.b == y.b && x.c == y.c)
def exE (x y : Ev) : Bool := (x.k == y.k) && (x.p.toList == y.p.toList) && (x.o.toList == y.o.toList) && (x.q.toList == y.q.toList) && !neSpot x y && rsameV x.v y.v
def exEs : List Ev → List Ev → Bool
  | [], [] => true
  | x :: xs, y :: ys => exE x y && exEs xs ys
  | _, _ => false
theorem exEs_len : ∀ (xs ys : List Ev), xs.length ≠ ys.length → exEs xs ys = false
  | [], [], h => absurd rfl h
  | [], _ :: _, _ => rfl
  | _ :: _, [], _ => rfl
  | x :: xs, y :: ys, h => by simp [exEs, exEs_len xs ys (by simpa using h)]
theorem exEs_step (xs ys : List Ev) (j : Nat) (h : j < xs.length) (h' : j < ys.length) : exEs (xs.drop j) (ys.drop j) = (exE xs[j] ys[j] && exEs (xs.drop (j + 1)) (ys.drop (j + 1))) := by
  rw [List.drop_eq_getElem_cons h, List.drop_eq_getElem_cons h', exEs]
theorem gen_world {G : World → Prop} (X : World) (h : ∀ W, W = X → G W) : G X := h X rfl
theorem spot_equal (a b c a' b' c' : Int) (w : World) : (Op.equal 35 (.agg #[.int .i64 a, .int .i64 b, .int .i64 c]) (.agg #[.int .i64 a', .int .i64 b', .int .i64 c'])).run Try.prog w = .ok (a == a' && b == b' && c == c') w := by
  have hf : Try.prog.underlying 35 = some (.struct (Try.prog.fieldsOf 35)) := by kernel_rfl
  have h := run_equalIn_struct (P := Try.prog) w 9999 35 #[.int .i64 a, .int .i64 b, .int .i64 c] #[.int .i64 a', .int .i64 b', .int .i64 c'] hf (by kernel_rfl)
  unfold Op.equal
  refine h.trans ?_
  simp only [Program.fieldsOf, Try.underlying35]
  go_simp
  by_cases h1 : a = a' <;> by_cases h2 : b = b' <;> by_cases h3 : c = c' <;> simp [h1, h2, h3]

theorem spot_neq (x y : Ev) (w : World) : (binOp BinOp.neq 35 (.agg #[.int .i64 x.a, .int .i64 x.b, .int .i64 x.c]) (.agg #[.int .i64 y.a, .int .i64 y.b, .int .i64 y.c])).run Try.prog w = .ok (.bool (neSpot x y)) w := by
  have h := spot_equal x.a x.b x.c y.a y.b y.c w
  unfold binOp
  simp [Sem.run_bind, h, neSpot]
/-! ### two boxes, laid in either order -/
structure PInv (z : Array Value) (t : TypeId) (W0 : World) (o6 o7 : Option Nat) (W : World) : Prop where
  bel : Below W0.heap.size W0 W
  b6 : ∀ b, o6 = some b → W0.heap.size ≤ b ∧ W.heap[b]? = some (.cells z t (0, 0))
  b7 : ∀ b, o7 = some b → W0.heap.size ≤ b ∧ W.heap[b]? = some (.cells z t (0, 0))
  ne : ∀ b c, o6 = some b → o7 = some c → b ≠ c
section
variable {z : Array Value} {t : TypeId} {W0 W W2 : World} {o6 o7 : Option Nat}
theorem PInv.start (z : Array Value) (t : TypeId) (W0 : World) : PInv z t W0 none none W0.drew := ⟨(Below.refl _ _).drew, fun _ h => (by cases h), fun _ h => (by cases h), fun _ _ h => (by cases h)⟩
theorem PInv.a6 (h : PInv z t W0 none o7 W) (e : W2 = W.alloc (.cells z t)) : PInv z t W0 (some W.heap.size) o7 W2 := by
  subst e
  have hz := h.bel.size
  refine ⟨h.bel.alloc hz _, fun b hb => ?_, fun b hb => ⟨(h.b7 b hb).1, box_alloc (h.b7 b hb).2 _⟩, fun b c hb hc => ?_⟩
  · cases hb; exact ⟨hz, heap_alloc_new _ _⟩
  · cases hb; have := box_lt (h.b7 c hc).2; omega
theorem PInv.a7 (h : PInv z t W0 o6 none W) (e : W2 = W.alloc (.cells z t)) : PInv z t W0 o6 (some W.heap.size) W2 := by
  subst e
  have hz := h.bel.size
  refine ⟨h.bel.alloc hz _, fun b hb => ⟨(h.b6 b hb).1, box_alloc (h.b6 b hb).2 _⟩, fun b hb => ?_, fun b c hb hc => ?_⟩
  · cases hb; exact ⟨hz, heap_alloc_new _ _⟩
  · cases hc; have := box_lt (h.b6 b hb).2; omega
end
def zE : Array Value := #[.int .i64 0, .string ⟨#[]⟩, .string ⟨#[]⟩, .string ⟨#[]⟩, .int .i64 0, .int .i64 0, .int .i64 0, .string ⟨#[]⟩, .slice none 0 0, .int .i64 0, .int .i64 0, .int .i64 0]

set_option maxHeartbeats 4000000 in
set_option maxRecDepth 100000 in
theorem Exact_ref (xs ys : List Ev) (A A' : Option Addr) (c c' B0 N0 : Nat) (w : World) (hx0 : Row eEl B0 N0 w A xs) (hy0 : Row eEl B0 N0 w A' ys) (hN : N0 ≤ w.heap.size) :
    Calls Try.prog 23 #[.slice A xs.length c, .slice A' ys.length c'] w fun e w' => e = .returned (.bool (exEs xs ys)) ∧ Below w.heap.size w w' := by
  obtain ⟨r, hr⟩ : ∃ r, r = exEs xs ys := ⟨_, rfl⟩
  rw [← hr]
  have hlx := hx0.lenE
  have hly := hy0.lenE
  have hx := Q.mk hx0
  have hy := Q.mk hy0
  clear hx0 hy0
  by_cases hn : xs.length = ys.length
  · have hn' : ((xs.length : Int) != (ys.length : Int)) = false := by simp [hn]
    have hn1 : xs.length ≤ ys.length := by omega
    have hn2 : ys.length ≤ xs.length := by omega
    have hR : Q (r = exEs (xs.drop 0) (ys.drop 0)) := ⟨hr⟩
    clear hn hr
    go_enter Try.func23, Try.ntmps23
    go_wp2_with fail
    clear hn'
    go_loopw [5] (fun i wr => ∃ j : Nat, j ≤ xs.length ∧ i = .int .i64 j ∧ Q (r = exEs (xs.drop j) (ys.drop j)) ∧ Below w.heap.size w wr) (fun i _ => xs.length - (intOf i).toNat)
    case atStart => exact ⟨0, Nat.zero_le _, rfl, hR, Below.refl _ _⟩
    case round =>
      clear hR
      obtain ⟨j, hj, rfl, hR, hB⟩ := hrel
      have hz := hB.size
      by_cases hlt : j < xs.length
      · have hlt' : j < ys.length := by omega
        obtain ⟨b, o, x, Ax, cx, rfl, hbN, hx', hxOk, x0, x1, x2, x3, x4, x5, x6, x7, x8, x9, x10, x11⟩ := (hx.out.below hB hN).atE j hlt
        obtain ⟨b', o', y, Ay, cy, rfl, hbN', hy', hyOk, y0, y1, y2, y3, y4, y5, y6, y7, y8, y9, y10, y11⟩ := (hy.out.below hB hN).atE j hlt'
        have HS := hR.out
        rw [exEs_step xs ys j hlt hlt', hx', hy'] at HS
        replace HS := Q.mk HS
        replace hxOk := Q.mk hxOk
        replace hyOk := Q.mk hyOk
        clear hx' hy' hR
        have hI := PInv.start zE 37 wr
        have lb : b < wr.heap.size := by omega
        have lb' : b' < wr.heap.size := by omega
        have HSc : Q (∀ W', Below wr.heap.size wr W' → (W'.cell? ⟨b, o + j * 12, none⟩ = some (.int .i64 x.k) ∧ W'.cell? ⟨b, o + j * 12 + 1, none⟩ = some (.string x.p) ∧ W'.cell? ⟨b, o + j * 12 + 2, none⟩ = some (.string x.o) ∧ W'.cell? ⟨b, o + j * 12 + 3, none⟩ = some (.string x.q) ∧ W'.cell? ⟨b, o + j * 12 + 4, none⟩ = some (.int .i64 x.v.kind) ∧ W'.cell? ⟨b, o + j * 12 + 5, none⟩ = some (.int .i64 x.v.int) ∧ W'.cell? ⟨b, o + j * 12 + 6, none⟩ = some (.int .i64 x.v.im) ∧ W'.cell? ⟨b, o + j * 12 + 7, none⟩ = some (.string x.v.text) ∧ W'.cell? ⟨b, o + j * 12 + 8, none⟩ = some (.slice Ax x.v.items.length cx) ∧ W'.cell? ⟨b, o + j * 12 + 9, none⟩ = some (.int .i64 x.a) ∧ W'.cell? ⟨b, o + j * 12 + 10, none⟩ = some (.int .i64 x.b) ∧ W'.cell? ⟨b, o + j * 12 + 11, none⟩ = some (.int .i64 x.c) ∧ W'.cell? ⟨b', o' + j * 12, none⟩ = some (.int .i64 y.k) ∧ W'.cell? ⟨b', o' + j * 12 + 1, none⟩ = some (.string y.p) ∧ W'.cell? ⟨b', o' + j * 12 + 2, none⟩ = some (.string y.o) ∧ W'.cell? ⟨b', o' + j * 12 + 3, none⟩ = some (.string y.q) ∧ W'.cell? ⟨b', o' + j * 12 + 4, none⟩ = some (.int .i64 y.v.kind) ∧ W'.cell? ⟨b', o' + j * 12 + 5, none⟩ = some (.int .i64 y.v.int) ∧ W'.cell? ⟨b', o' + j * 12 + 6, none⟩ = some (.int .i64 y.v.im) ∧ W'.cell? ⟨b', o' + j * 12 + 7, none⟩ = some (.string y.v.text) ∧ W'.cell? ⟨b', o' + j * 12 + 8, none⟩ = some (.slice Ay y.v.items.length cy) ∧ W'.cell? ⟨b', o' + j * 12 + 9, none⟩ = some (.int .i64 y.a) ∧ W'.cell? ⟨b', o' + j * 12 + 10, none⟩ = some (.int .i64 y.b) ∧ W'.cell? ⟨b', o' + j * 12 + 11, none⟩ = some (.int .i64 y.c))) := ⟨fun W' h => ⟨(h.cell (p := ⟨b, _, none⟩) lb).trans x0, (h.cell (p := ⟨b, _, none⟩) lb).trans x1, (h.cell (p := ⟨b, _, none⟩) lb).trans x2, (h.cell (p := ⟨b, _, none⟩) lb).trans x3, (h.cell (p := ⟨b, _, none⟩) lb).trans x4, (h.cell (p := ⟨b, _, none⟩) lb).trans x5, (h.cell (p := ⟨b, _, none⟩) lb).trans x6, (h.cell (p := ⟨b, _, none⟩) lb).trans x7, (h.cell (p := ⟨b, _, none⟩) lb).trans x8, (h.cell (p := ⟨b, _, none⟩) lb).trans x9, (h.cell (p := ⟨b, _, none⟩) lb).trans x10, (h.cell (p := ⟨b, _, none⟩) lb).trans x11, (h.cell (p := ⟨b', _, none⟩) lb').trans y0, (h.cell (p := ⟨b', _, none⟩) lb').trans y1, (h.cell (p := ⟨b', _, none⟩) lb').trans y2, (h.cell (p := ⟨b', _, none⟩) lb').trans y3, (h.cell (p := ⟨b', _, none⟩) lb').trans y4, (h.cell (p := ⟨b', _, none⟩) lb').trans y5, (h.cell (p := ⟨b', _, none⟩) lb').trans y6, (h.cell (p := ⟨b', _, none⟩) lb').trans y7, (h.cell (p := ⟨b', _, none⟩) lb').trans y8, (h.cell (p := ⟨b', _, none⟩) lb').trans y9, (h.cell (p := ⟨b', _, none⟩) lb').trans y10, (h.cell (p := ⟨b', _, none⟩) lb').trans y11⟩⟩
        go_wp2
        refine start_ (n := 12) (S := fun w' => w'.cell? ⟨b, o + j * 12, none⟩ = some (.int .i64 x.k) ∧ w'.cell? ⟨b, o + j * 12 + 1, none⟩ = some (.string x.p) ∧ w'.cell? ⟨b, o + j * 12 + 2, none⟩ = some (.string x.o) ∧ w'.cell? ⟨b, o + j * 12 + 3, none⟩ = some (.string x.q) ∧ w'.cell? ⟨b, o + j * 12 + 4, none⟩ = some (.int .i64 x.v.kind) ∧ w'.cell? ⟨b, o + j * 12 + 5, none⟩ = some (.int .i64 x.v.int) ∧ w'.cell? ⟨b, o + j * 12 + 6, none⟩ = some (.int .i64 x.v.im) ∧ w'.cell? ⟨b, o + j * 12 + 7, none⟩ = some (.string x.v.text) ∧ w'.cell? ⟨b, o + j * 12 + 8, none⟩ = some (.slice Ax x.v.items.length cx) ∧ w'.cell? ⟨b, o + j * 12 + 9, none⟩ = some (.int .i64 x.a) ∧ w'.cell? ⟨b, o + j * 12 + 10, none⟩ = some (.int .i64 x.b) ∧ w'.cell? ⟨b, o + j * 12 + 11, none⟩ = some (.int .i64 x.c) ∧ w'.cell? ⟨b', o' + j * 12, none⟩ = some (.int .i64 y.k) ∧ w'.cell? ⟨b', o' + j * 12 + 1, none⟩ = some (.string y.p) ∧ w'.cell? ⟨b', o' + j * 12 + 2, none⟩ = some (.string y.o) ∧ w'.cell? ⟨b', o' + j * 12 + 3, none⟩ = some (.string y.q) ∧ w'.cell? ⟨b', o' + j * 12 + 4, none⟩ = some (.int .i64 y.v.kind) ∧ w'.cell? ⟨b', o' + j * 12 + 5, none⟩ = some (.int .i64 y.v.int) ∧ w'.cell? ⟨b', o' + j * 12 + 6, none⟩ = some (.int .i64 y.v.im) ∧ w'.cell? ⟨b', o' + j * 12 + 7, none⟩ = some (.string y.v.text) ∧ w'.cell? ⟨b', o' + j * 12 + 8, none⟩ = some (.slice Ay y.v.items.length cy) ∧ w'.cell? ⟨b', o' + j * 12 + 9, none⟩ = some (.int .i64 y.a) ∧ w'.cell? ⟨b', o' + j * 12 + 10, none⟩ = some (.int .i64 y.b) ∧ w'.cell? ⟨b', o' + j * 12 + 11, none⟩ = some (.int .i64 y.c)) (ds := [11]) #[false, false, false, false, false, false, false, false, false, false, false, false] (by kernel_rfl) rfl rfl (HSc.out _ (Below.refl _ _).drew) (fun hHeld => ?_)
        refine pure_ (i := 0) (N := some 19) (v := ?_) (a' := ?_) #[true, false, false, false, false, false, false, false, false, false, false, false] rfl rfl (by kernel_rfl) (fun _ _ _ h => h) (Or.inl ⟨by rfl, ?_⟩) ?_ ?_
        rotate_left
        · intro w'
          go_simp
          with_reducible rfl
        rotate_left
        · simp only [Act.put, List.setIfInBounds_toArray, List.set_cons_zero, List.set_cons_succ, i64_w, i32_w]
          rfl
        refine pure_ (i := 1) (N := some 20) (v := ?_) (a' := ?_) #[true, true, false, false, false, false, false, false, false, false, false, false] rfl rfl (by kernel_rfl) (fun _ _ _ h => h) (Or.inl ⟨by rfl, ?_⟩) ?_ ?_
        rotate_left
        · intro w'
          go_simp
          with_reducible rfl
        rotate_left
        · simp only [Act.put, List.setIfInBounds_toArray, List.set_cons_zero, List.set_cons_succ, i64_w, i32_w]
          rfl
        refine pure_ (i := 2) (N := some 21) (v := ?_) (a' := ?_) #[true, true, true, false, false, false, false, false, false, false, false, false] rfl rfl (by kernel_rfl) (fun _ _ _ h => h) (Or.inl ⟨by rfl, ?_⟩) ?_ ?_
        rotate_left
        · intro w'
          go_simp
          with_reducible rfl
        rotate_left
        · simp only [Act.put, List.setIfInBounds_toArray, List.set_cons_zero, List.set_cons_succ, i64_w, i32_w]
          rfl
        refine take_ (i := 3) (N := some 22) (v := ?_) (a' := ?_) #[true, true, true, true, false, false, false, false, false, false, false, false] rfl rfl (by kernel_rfl) (fun _ _ _ h => h) (Or.inl ⟨by rfl, ?_⟩) hHeld ?_ ?_
        rotate_left
        · rintro w' ⟨s0_, s1_, s2_, s3_, s4_, s5_, s6_, s7_, s8_, s9_, s10_, s11_, s12_, s13_, s14_, s15_, s16_, s17_, s18_, s19_, s20_, s21_, s22_, s23_⟩
          go_simp
          with_reducible rfl
        rotate_left
        · simp only [Act.put, List.setIfInBounds_toArray, List.set_cons_zero, List.set_cons_succ, i64_w, i32_w]
          rfl
        refine pure_ (i := 4) (N := some 23) (v := ?_) (a' := ?_) #[true, true, true, true, true, false, false, false, false, false, false, false] rfl rfl (by kernel_rfl) (fun _ _ _ h => h) (Or.inl ⟨by rfl, ?_⟩) ?_ ?_
        rotate_left
        · intro w'
          go_simp
          with_reducible rfl
        rotate_left
        · simp only [Act.put, List.setIfInBounds_toArray, List.set_cons_zero, List.set_cons_succ, i64_w, i32_w]
          rfl
        refine pure_ (i := 5) (N := some 24) (v := ?_) (a' := ?_) #[true, true, true, true, true, true, false, false, false, false, false, false] rfl rfl (by kernel_rfl) (fun _ _ _ h => h) (Or.inl ⟨by rfl, ?_⟩) ?_ ?_
        rotate_left
        · intro w'
          go_simp
          with_reducible rfl
        rotate_left
        · simp only [Act.put, List.setIfInBounds_toArray, List.set_cons_zero, List.set_cons_succ, i64_w, i32_w]
          rfl
        refine pure_ (i := 6) (N := some 25) (v := ?_) (a' := ?_) #[true, true, true, true, true, true, true, false, false, false, false, false] rfl rfl (by kernel_rfl) (fun _ _ _ h => h) (Or.inl ⟨by rfl, ?_⟩) ?_ ?_
        rotate_left
        · intro w'
          go_simp
          with_reducible rfl
        rotate_left
        · simp only [Act.put, List.setIfInBounds_toArray, List.set_cons_zero, List.set_cons_succ, i64_w, i32_w]
          rfl
        refine take_ (i := 7) (N := some 26) (v := ?_) (a' := ?_) #[true, true, true, true, true, true, true, true, false, false, false, false] rfl rfl (by kernel_rfl) (fun _ _ _ h => h) (Or.inl ⟨by rfl, ?_⟩) hHeld ?_ ?_
        rotate_left
        · rintro w' ⟨s0_, s1_, s2_, s3_, s4_, s5_, s6_, s7_, s8_, s9_, s10_, s11_, s12_, s13_, s14_, s15_, s16_, s17_, s18_, s19_, s20_, s21_, s22_, s23_⟩
          go_simp
          with_reducible rfl
        rotate_left
        · simp only [Act.put, List.setIfInBounds_toArray, List.set_cons_zero, List.set_cons_succ, i64_w, i32_w]
          rfl
        refine join_ (σ := Nat × Nat) 2 #[true, true, true, true, true, true, true, true, true, true, false, false] (fun s => [(6, .pointer (some ⟨s.1, 0, none⟩)), (7, .pointer (some ⟨s.2, 0, none⟩))]) (fun s w' => Q (PInv zE 37 wr (some s.1) (some s.2) w')) ?cont_ ?tree_
        case tree_ =>
          intro hj_
          obtain ⟨W0_, hWr⟩ : ∃ V, V = wr.drew := ⟨_, rfl⟩
          rw [← hWr]
          rw [← hWr] at hI
          clear hWr
          refine two_ (i := 8) (j := 9) (Ni := some 6) (Nj := some 7) #[true, true, true, true, true, true, true, true, true, false, false, false] #[true, true, true, true, true, true, true, true, false, true, false, false] rfl rfl rfl rfl (by kernel_rfl) (by decide) (by decide) ?_ ?_
          · intro K hK
            go_simp
            obtain ⟨W1_, hV⟩ : ∃ V, V = World.alloc (W0_) (.cells #[.int .i64 0, .string ⟨#[]⟩, .string ⟨#[]⟩, .string ⟨#[]⟩, .int .i64 0, .int .i64 0, .int .i64 0, .string ⟨#[]⟩, .slice none 0 0, .int .i64 0, .int .i64 0, .int .i64 0] 37) := ⟨_, rfl⟩
            rw [← hV]
            replace hI := hI.a6 hV
            clear hV
            refine hK.out _ _ (HSc.out _ hI.bel) (fun hHeld => ?_)
            clear hK K
            refine one_ (i := 9) (N := some 7) #[true, true, true, true, true, true, true, true, true, true, false, false] rfl rfl (by kernel_rfl) (by decide) ?_
            · intro K hK
              go_simp
              obtain ⟨W2_, hV⟩ : ∃ V, V = World.alloc (W1_) (.cells #[.int .i64 0, .string ⟨#[]⟩, .string ⟨#[]⟩, .string ⟨#[]⟩, .int .i64 0, .int .i64 0, .int .i64 0, .string ⟨#[]⟩, .slice none 0 0, .int .i64 0, .int .i64 0, .int .i64 0] 37) := ⟨_, rfl⟩
              rw [← hV]
              replace hI := hI.a7 hV
              clear hV
              refine hK.out _ _ (HSc.out _ hI.bel) (fun hHeld => ?_)
              clear hK K
              exact hj_ (_, _) _ ⟨hI⟩
          · intro K hK
            go_simp
            obtain ⟨W1_, hV⟩ : ∃ V, V = World.alloc (W0_) (.cells #[.int .i64 0, .string ⟨#[]⟩, .string ⟨#[]⟩, .string ⟨#[]⟩, .int .i64 0, .int .i64 0, .int .i64 0, .string ⟨#[]⟩, .slice none 0 0, .int .i64 0, .int .i64 0, .int .i64 0] 37) := ⟨_, rfl⟩
            rw [← hV]
            replace hI := hI.a7 hV
            clear hV
            refine hK.out _ _ (HSc.out _ hI.bel) (fun hHeld => ?_)
            clear hK K
            refine one_ (i := 8) (N := some 6) #[true, true, true, true, true, true, true, true, true, true, false, false] rfl rfl (by kernel_rfl) (by decide) ?_
            · intro K hK
              go_simp
              obtain ⟨W2_, hV⟩ : ∃ V, V = World.alloc (W1_) (.cells #[.int .i64 0, .string ⟨#[]⟩, .string ⟨#[]⟩, .string ⟨#[]⟩, .int .i64 0, .int .i64 0, .int .i64 0, .string ⟨#[]⟩, .slice none 0 0, .int .i64 0, .int .i64 0, .int .i64 0] 37) := ⟨_, rfl⟩
              rw [← hV]
              replace hI := hI.a6 hV
              clear hV
              refine hK.out _ _ (HSc.out _ hI.bel) (fun hHeld => ?_)
              clear hK K
              exact hj_ (_, _) _ ⟨hI⟩
        case cont_ =>
          intro s w' hF
          obtain ⟨b6, b7⟩ := s
          have hI := hF.out
          have k6 := (hI.b6 b6 rfl).2
          have k7 := (hI.b7 b7 rfl).2
          have g6 := (hI.b6 b6 rfl).1
          have g7 := (hI.b7 b7 rfl).1
          have n1 := hI.ne b6 b7 rfl rfl
          have n2 := n1.symm
          have hbel := hI.bel
          obtain ⟨p0, p1, p2, p3, p4, p5, p6, p7, p8, p9, p10, p11, pf⟩ := box12 k6
          obtain ⟨q0, q1, q2, q3, q4, q5, q6, q7, q8, q9, q10, q11, qf⟩ := box12 k7
          clear hI hF
          refine norm_ (a' := ?_) ?_ ?_
          rotate_left
          · simp only [putAll, Act.put, List.setIfInBounds_toArray, List.set_cons_zero, List.set_cons_succ, i64_w, i32_w]
            rfl
          refine one_ (i := 10) (N := none) #[true, true, true, true, true, true, true, true, true, true, true, false] rfl rfl (by kernel_rfl) (by decide) (fun K hK => ?_)
          go_simp
          refine hK.out _ _ (HSc.out _ ?hs10) (fun hHeld => ?_)
          case hs10 => exact hbel.set12 g6
          clear hK K
          refine last_ (i := 11) (N := none) #[true, true, true, true, true, true, true, true, true, true, true, true] rfl rfl (by kernel_rfl) (by decide) (fun K hK => ?_)
          go_simp
          refine hK.out _ _ ?_
          clear hK K
          refine done_ (by kernel_rfl) ?_
          refine gen_world (G := fun W => Exit.then _ _ Exit.normal _ W) _ ?_
          intro W2 hW2
          have k6' : W2.heap[b6]? = some (.cells #[.int .i64 x.k, .string x.p, .string x.o, .string x.q, .int .i64 x.v.kind, .int .i64 x.v.int, .int .i64 x.v.im, .string x.v.text, .slice Ax x.v.items.length cx, .int .i64 x.a, .int .i64 x.b, .int .i64 x.c] 37 (0, 0)) := by rw [hW2]; exact box_far12 (box_set12 k6) n1
          have k7' : W2.heap[b7]? = some (.cells #[.int .i64 y.k, .string y.p, .string y.o, .string y.q, .int .i64 y.v.kind, .int .i64 y.v.int, .int .i64 y.v.im, .string y.v.text, .slice Ay y.v.items.length cy, .int .i64 y.a, .int .i64 y.b, .int .i64 y.c] 37 (0, 0)) := by rw [hW2]; exact box_set12 (box_far12 k7 n2)
          have bel2 : Below wr.heap.size wr W2 := by rw [hW2]; exact (hbel.set12 g6).set12 g7
          clear HSc hW2 p0 p1 p2 p3 p4 p5 p6 p7 p8 p9 p10 p11 pf q0 q1 q2 q3 q4 q5 q6 q7 q8 q9 q10 q11 qf k6 k7 hHeld hbel
          have lN2 : N0 ≤ W2.heap.size := by have := bel2.size; omega
          have vx := Q.mk (hxOk.out.v.below bel2 (by omega))
          have vy := Q.mk (hyOk.out.v.below bel2 (by omega))
          have BW : Below w.heap.size w W2 := hB.trans (bel2.mono hz)
          obtain ⟨p0, p1, p2, p3, p4, p5, p6, p7, p8, p9, p10, p11, pf⟩ := box12 k6'
          obtain ⟨q0, q1, q2, q3, q4, q5, q6, q7, q8, q9, q10, q11, qf⟩ := box12 k7'
          have hsp := spot_neq x y
          clear k6' k7' x0 x1 x2 x3 x4 x5 x6 x7 x8 x9 x10 x11 y0 y1 y2 y3 y4 y5 y6 y7 y8 y9 y10 y11
          replace HS : Q (r = (!(x.k != y.k) && (x.p.toList == y.p.toList) && (x.o.toList == y.o.toList) && (x.q.toList == y.q.toList) && !neSpot x y && rsameV x.v y.v && exEs (xs.drop (j + 1)) (ys.drop (j + 1)))) := ⟨by rw [HS.out, exE]; simp only [bne, Bool.not_not, Bool.and_assoc]⟩
          cases h0 : (x.k != y.k)
          rotate_left
          · have HR : Q (r = false) := ⟨by rw [HS.out, h0]; simp⟩
            go_wp2_with fail
            go_ret
            exact ⟨by rw [HR.out]; rfl, BW⟩
          cases h1 : (x.p.toList == y.p.toList)
          · have HR : Q (r = false) := ⟨by rw [HS.out, h0, h1]; simp⟩
            have h1n : (x.p.toList != y.p.toList) = true := by rw [bne, h1]; rfl
            go_wp2_with fail
            go_ret
            exact ⟨by rw [HR.out]; rfl, BW⟩
          have h1n : (x.p.toList != y.p.toList) = false := by rw [bne, h1]; rfl
          cases h2 : (x.o.toList == y.o.toList)
          · have HR : Q (r = false) := ⟨by rw [HS.out, h0, h1, h2]; simp⟩
            have h2n : (x.o.toList != y.o.toList) = true := by rw [bne, h2]; rfl
            go_wp2_with fail
            go_ret
            exact ⟨by rw [HR.out]; rfl, BW⟩
          have h2n : (x.o.toList != y.o.toList) = false := by rw [bne, h2]; rfl
          cases h3 : (x.q.toList == y.q.toList)
          · have HR : Q (r = false) := ⟨by rw [HS.out, h0, h1, h2, h3]; simp⟩
            have h3n : (x.q.toList != y.q.toList) = true := by rw [bne, h3]; rfl
            go_wp2_with fail
            go_ret
            exact ⟨by rw [HR.out]; rfl, BW⟩
          have h3n : (x.q.toList != y.q.toList) = false := by rw [bne, h3]; rfl
          cases h4 : neSpot x y
          rotate_left
          · have HR : Q (r = false) := ⟨by rw [HS.out, h0, h1, h2, h3, h4]; simp⟩
            go_wp2_with fail
            go_ret
            exact ⟨by rw [HR.out]; rfl, BW⟩
          cases h5 : rsameV x.v y.v
          · have HR : Q (r = false) := ⟨by rw [HS.out, h0, h1, h2, h3, h4, h5]; simp⟩
            replace h5 := Q.mk h5
            go_wp2_with (go_at_call 73; refine (SameV_ref x.v y.v Ax Ay cx cy B0 N0 _ vx.out vy.out lN2).mono ?_; rw [h5.out]; rintro e W3 ⟨rfl, hb3⟩)
            go_ret
            exact ⟨by rw [HR.out]; rfl, BW.trans (hb3.mono BW.size)⟩
          · have HR : Q (r = exEs (xs.drop (j + 1)) (ys.drop (j + 1))) := ⟨by rw [HS.out, h0, h1, h2, h3, h4, h5]; simp⟩
            replace h5 := Q.mk h5
            go_wp2_with (go_at_call 73; refine (SameV_ref x.v y.v Ax Ay cx cy B0 N0 _ vx.out vy.out lN2).mono ?_; rw [h5.out]; rintro e W3 ⟨rfl, hb3⟩)
            go_roundw
            case rel => exact ⟨j + 1, by omega, by go_num, HR, BW.trans (hb3.mono BW.size)⟩
            case measure => simp [intOf]; omega
      · have HR : Q (r = true) := ⟨by rw [hR.out, List.drop_eq_nil_of_le (by omega), List.drop_eq_nil_of_le (by omega)]; rfl⟩
        go_wp2
        go_ret
        exact ⟨by rw [HR.out]; rfl, hB⟩
  · have hn' : ((xs.length : Int) != (ys.length : Int)) = true := by simp; omega
    have HR : Q (r = false) := ⟨by rw [hr]; exact exEs_len xs ys hn⟩
    clear hn hr
    go_enter Try.func23, Try.ntmps23
    go_wp2_with fail
    go_ret
    exact ⟨by rw [HR.out]; rfl, Below.refl _ _⟩
end Go.Proofs.Ytifakbipdmceiaa
