/- Conditions: unary, walked. -/
import Derived.Test.YtmageoieajhhdaaDoorBkC
namespace Go.Proofs.YtmageoieajhhdaaDoor.Bk
open Go Go.RowKit Go.Proofs.YtmageoieajhhdaaDoorW.PrintWords Go.Proofs.YtmageoieajhhdaaDoorW.PrintLast Go.Proofs.YtmageoieajhhdaaDoorW.PrintMore Go.Proofs.YtmageoieajhhdaaDoor.PBrkWritten Go.Proofs.YtmageoieajhhdaaDoor.RegionVal
open Go.Lib hiding intOf
set_option linter.unusedVariables false
set_option linter.unusedSimpArgs false
theorem run_len {f : Nat} {j : Job} {s : Bs} {b : Bool} {r : Ex × Bs × Bool} (hj : j.ok) (h : runF f j s b = some r) : r.2.1.length ≤ s.length := by
  obtain ⟨q, h1, h2⟩ := run_total (need j s.length) j s b hj (Nat.le_refl _)
  rw [run_one h h1]
  exact h2
/-! literals of trees -/
theorem lit_V {W W1 : World} {gn : Nat} {xs : List S52} {inner : List Value} {ok : Nat → Prop} (hrep : Reps (Kd.FK k52 W ok) 5 xs inner) (hb : W1.heap[gn]? = some (.cells inner.toArray 52 (0, 0))) (hB : Below W.heap.size W W1) (hm : xs.length ≤ 1000) :
    Kd.V k52 52 W1 0 (fun k => (ok k ∧ k < W.heap.size) ∨ k = gn) (.slice (some ⟨gn, 0, none⟩) xs.length xs.length) xs := by
  refine ⟨_, _, rfl, Nat.le_refl _, fun W' hW' => ⟨rfl, by omega, fun _ => ⟨_, rfl, fun j p hj => ?_⟩⟩⟩
  have hk : k52.K W' p ((inner.drop (j * 5)).take 5) := hrep.2 j p hj W' (fun k hk hlt => (hW' k (.inl ⟨hk, hlt⟩) (Nat.lt_of_lt_of_le hlt hB.size)).trans (hB.block k hlt))
  refine ⟨(inner.drop (j * 5)).take 5, k52.K_len hk, hk, fun i u hu => ?_⟩
  have hi : i < 5 := by
    have h1 := (List.getElem?_eq_some_iff.1 hu).1
    rw [k52.K_len hk] at h1
    exact h1
  rw [List.getElem?_take, if_pos hi, List.getElem?_drop] at hu
  have hg : W'.heap[gn]? = some (.cells inner.toArray 52 (0, 0)) := (hW' gn (.inr rfl) (blk_lt hb)).trans hb
  rw [Go.Proofs.YtmageoieajhhdaaDoorW.PrintWords.add_plain, show k52.sz = 5 from rfl, blk_cell hg (j * 5 + i), List.getElem?_toArray]
  exact hu
theorem XV.fk {W : World} {ok : Nat → Prop} {x : S52} {v3 : Value} (h : XV W ok (.agg (cell5 x v3).toArray) x) : Kd.FK k52 W ok x (cell5 x v3) := by
  obtain ⟨v, e, A, c, rfl, l, hf⟩ := h
  have e2 : cell5 x v3 = cell5 x (.slice A x.f3.length c) := by
    have := Value.agg.inj e
    simpa using this
  rw [e2]
  exact k52_mkF W ok x l hf
theorem reps1 {R : S52 → List Value → Prop} {x : S52} {c : List Value} (h : R x c) (hl : c.length = 5) : Reps R 5 [x] c := by
  have := (Reps.none R 5).snoc h hl
  simpa using this
theorem reps2 {R : S52 → List Value → Prop} {x y : S52} {c d : List Value} (h : R x c) (hl : c.length = 5) (h2 : R y d) (hl2 : d.length = 5) : Reps R 5 [x, y] (c ++ d) := by
  have := ((Reps.none R 5).snoc h hl).snoc h2 hl2
  simpa using this
section
variable {P : Program} {ops : Array Oper} {rest : List Oper} {o : Oper} {a : Act} {Q : Exit → Act → World → Prop}
theorem lit_event {W : World} (hgd : o.guard = none) {N : Tmp} (_hd : o.dst = some N) (m : Nat) (inner : List Value)
    (hrun : (execOp a.eval o).run P W = .ok (.value (.slice (some ⟨W.heap.size, 0, none⟩) m m)) (W.alloc (.cells inner.toArray 52 (0, 0))))
    (h : ∀ g, g = W.heap.size → ∀ w1, w1.heap[g]? = some (.cells inner.toArray 52 (0, 0)) → Below W.heap.size W w1 → wpList P ops Q rest (a.put o.dst (.slice (some ⟨g, 0, none⟩) m m)) w1) : wpList P ops Q (o :: rest) a W :=
  Kd.event_run hgd hrun (h _ rfl _ (blk_new W _) (below_alloc (Below.refl _ _) _))
end
theorem keep_blk {W W1 : World} {g b : Nat} {o : Obj} (hk : KeepBut W W1 g none) (hne : b ≠ g) (h : W.heap[b]? = some o) : W1.heap[b]? = some o := (hk.2 b (blk_lt h) hne (by simp)).trans h
/-- what a parser's call leaves -/
def Post (g : Nat) (w0 w : World) (x : Ex) (s' : Bs) (b' : Bool) (e : Ending) (w' : World) : Prop := ∃ v, e = .returned v ∧ XV w' (fun k => w.heap.size ≤ k) v (toS x) ∧ PI w0 w w' g s' b'
def UnOK (f : Nat) : Prop := ∀ (g : Nat) (s : Bs) (b : Bool) (w0 w : World) (x : Ex) (s' : Bs) (b' : Bool), runF f .un s b = some (x, s', b') → s.length ≤ 1000 → IsS74 w0 w g (bs s) b → Below w0.heap.size w0 w → Calls Tryd.prog 41 #[.pointer (some ⟨g, 0, none⟩)] w (Post g w0 w x s' b')
def BinOK (f : Nat) : Prop := ∀ (k : Nat), k ≤ 5 → ∀ (g : Nat) (s : Bs) (b : Bool) (w0 w : World) (x : Ex) (s' : Bs) (b' : Bool), runF f (.bin k) s b = some (x, s', b') → s.length ≤ 1000 → IsS74 w0 w g (bs s) b → Below w0.heap.size w0 w → Calls Tryd.prog 29 #[.pointer (some ⟨g, 0, none⟩), .int .i64 (k : Int)] w (Post g w0 w x s' b')
set_option maxHeartbeats 8000000 in
set_option maxRecDepth 100000 in
theorem un_step (f : Nat) (HU : UnOK f) (HBI : BinOK f) : UnOK (f + 1) := by
  intro g s b w0 w x s' b' h hl hI hB
  have HW := Aside0.mk hB.size
  have HP := Aside0.mk (PI.init hI hB)
  have HUA := Aside0.mk HU
  have HBA := Aside0.mk HBI
  clear hI hB HU HBI
  rw [runF] at h
  obtain ⟨op, s1, hs1⟩ : ∃ op s1, signF [33, 45] s b = (op, s1) := ⟨_, _, rfl⟩
  rw [hs1] at h
  simp only at h
  have HS1 := Aside0.mk hs1
  have hl1 : s1.length ≤ 1000 := by
    have := sign_len [33, 45] s b
    rw [hs1] at this
    simp only at this
    omega
  clear hs1
  have HH := Aside0.mk h
  clear h
  go_enter Tryd.func41, Tryd.ntmps41
  go_upto_region 2 with (first
    | ((with_reducible refine gate_ (.alloc 52) rfl ?_); refine box_event ?hg (N := 2) ?hd (cs := #[.int .u8 0, .int .i64 0, .string (⟨#[]⟩ : ByteArray), .slice none 0 0, .int .i64 0]) (t := 52) ?hr ?_; (case hd => rfl); (case hg => rfl); (case hr => first | (go_simp; done) | (go_simp; rfl)); intro b2 hb2 W1 hbx hbl; replace hb2 := Aside0.mk hb2; replace hbx := Aside0.mk hbx; replace hbl := Aside0.mk hbl)
    | (go_at_call 42; have HP1 := Aside0.mk (HP.out.below hbl.out); refine (sign_calls g s [33, 45] b w0 _ HP1.out.1 HP1.out.2.1).mono ?_; rintro e W2 ⟨rfl, hI2, hB2, hK2⟩; rw [HS1.out] at hI2 ⊢; have HP2 := Aside0.mk (HP1.out.next ⟨hI2, hB2, hK2⟩); replace hK2 := Aside0.mk hK2; clear hI2 hB2)
    | fail)
  have NG := Aside0.mk (show b2 ≠ g from fun e => by have := HP.out.lt; have := hb2.out; omega)
  have GE := Aside0.mk (show w.heap.size ≤ b2 by have := hb2.out; omega)
  have BK2 := Aside0.mk (keep_blk hK2.out NG.out hbx.out)
  clear hbx hbl hb2 hK2 HP HP1
  by_cases hop : op = 33
  · have d1 : ((op.toNat : Int) == 33) = true := by rw [hop]; rfl
    have h := HH.out
    rw [if_pos hop] at h
    obtain ⟨⟨xq, sq, bq⟩, h1, h2⟩ := Option.bind_eq_some_iff.1 h
    cases h2
    have HQ := Aside0.mk h1
    clear h h1 HH hop
    go_wp2_with (first
      | (go_at_call 41; refine (HUA.out g s1 b w0 _ xq sq bq HQ.out hl1 HP2.out.1 HP2.out.2.1).mono ?_; rintro e W3 ⟨v, rfl, hx3, hp3⟩; obtain ⟨v3, rfl, hv3⟩ := hx3; obtain ⟨A3, c3, rfl⟩ := Kd.V_slice hv3; replace hv3 := Aside0.mk hv3; replace hp3 := Aside0.mk hp3; simp only [cell5])
      | ((with_reducible refine gate_dst (N := 10) rfl ?_); refine lit_event ?hg (N := 10) ?hd 1 (cell5 (toS xq) (.slice A3 (toS xq).f3.length c3)) ?hr ?_; (case hd => rfl); (case hg => rfl); (case hr => first | (go_simp; done) | (go_simp; rfl)); intro gn hgn W4 hb4 hl4; replace hgn := Aside0.mk hgn; replace hb4 := Aside0.mk hb4; replace hl4 := Aside0.mk hl4)
      | (go_at_call 44; have HS := Aside0.mk (Kd.V_mono (ok' := fun k => W2.heap.size ≤ k) (lit_V (reps1 (XV.fk ⟨_, rfl, hv3.out⟩) rfl) hb4.out hl4.out (by simp)) (fun k hk => by have h1 := hgn.out; have h2 := hp3.out.size; rcases hk with hk | hk <;> omega)); refine (brk_made.calls 2 33 (fun k => W2.heap.size ≤ k) (some ⟨gn, 0, none⟩) 1 [toS xq] _ _ _ _ _ _ HS.out (made_un 33 xq)).mono ?_; rintro e W5 ⟨v5, rfl, hv5, hb5⟩; obtain ⟨A5, c5, rfl⟩ := Kd.V_slice hv5; replace hv5 := Aside0.mk hv5; replace hb5 := Aside0.mk hb5)
      | ((with_reducible refine gate_ (.store 52 (.tmp 2) (.tmp 11)) rfl ?_); have BK5 := Aside0.mk (blk_below (blk_below (keep_blk hp3.out.2.2 NG.out BK2.out) hl4.out) hb5.out); refine put_event (g := b2) (seg := cell5 (toS (.un 33 xq)) (.slice A5 1 c5)) rfl rfl rfl rfl rfl BK5.out size52 rfl (cell5_one _ ⟨A5, 1, c5, rfl⟩) ?_; intro W6 hW6 hg6 hs6; replace hW6 := Aside0.mk hW6; replace hg6 := Aside0.mk hg6; replace hs6 := Aside0.mk hs6)
      | fail)
    have HP5 := Aside0.mk (((HP2.out.next hp3.out).below hl4.out).below hb5.out)
    have HK6 := kept_step (kept_refl W5 (fun k => k = b2)) hg6.out (fun p e => by cases e; exact .inl rfl)
    have HG5 := Aside0.mk (show b2 < W2.heap.size ∧ w.heap.size ≤ W2.heap.size ∧ W2.heap.size ≤ W4.heap.size from ⟨blk_lt BK2.out, HP2.out.size, by have h1 := hp3.out.size; have h2 := hl4.out.size; omega⟩)
    exact bodyPost_ret (results_cell_row rfl _ _ b2 52 (cell5 (toS (.un 33 xq)) (.slice A5 1 c5)).toArray (0, 0) _ rfl hW6.out Tryd.underlying52 rfl (by kernel_rfl)) rfl ⟨_, rfl, ⟨_, rfl, Kd.V_mono (ok := fun k => W2.heap.size ≤ k) (Kd.V_kept (Kd.V_mono hv5.out (fun k hk => hk.elim id (fun h => Nat.le_trans HG5.out.2.2 h))) HK6 (fun k hk he => by have := HG5.out; omega)) (fun k hk => Nat.le_trans HG5.out.2.1 hk)⟩, HP5.out.grown hg6.out (fun e => NG.out (Option.some.inj e).symm) (fun k e => by cases e; exact GE.out) HW.out⟩
  · have d1 : ((op.toNat : Int) == 33) = false := beq_eq_false_iff_ne.2 (fun e => hop (UInt8.toNat_inj.1 (by have e2 : (op.toNat : Int) = 33 := e; show op.toNat = 33; omega)))
    have hop0 := hop
    clear hop
    by_cases hop : op = 45
    · have d2 : ((op.toNat : Int) == 45) = true := by rw [hop]; rfl
      have h := HH.out
      rw [if_neg hop0, if_pos hop] at h
      obtain ⟨⟨xq, sq, bq⟩, h1, h2⟩ := Option.bind_eq_some_iff.1 h
      cases h2
      have HQ := Aside0.mk h1
      clear h h1 HH hop hop0
      go_wp2_with (first
        | (go_at_call 41; refine (HUA.out g s1 b w0 _ xq sq bq HQ.out hl1 HP2.out.1 HP2.out.2.1).mono ?_; rintro e W3 ⟨v, rfl, hx3, hp3⟩; obtain ⟨v3, rfl, hv3⟩ := hx3; obtain ⟨A3, c3, rfl⟩ := Kd.V_slice hv3; replace hv3 := Aside0.mk hv3; replace hp3 := Aside0.mk hp3; simp only [cell5])
        | ((with_reducible refine gate_dst (N := 16) rfl ?_); refine lit_event ?hg (N := 16) ?hd 1 (cell5 (toS xq) (.slice A3 (toS xq).f3.length c3)) ?hr ?_; (case hd => rfl); (case hg => rfl); (case hr => first | (go_simp; done) | (go_simp; rfl)); intro gn hgn W4 hb4 hl4; replace hgn := Aside0.mk hgn; replace hb4 := Aside0.mk hb4; replace hl4 := Aside0.mk hl4)
        | (go_at_call 44; have HS := Aside0.mk (Kd.V_mono (ok' := fun k => W2.heap.size ≤ k) (lit_V (reps1 (XV.fk ⟨_, rfl, hv3.out⟩) rfl) hb4.out hl4.out (by simp)) (fun k hk => by have h1 := hgn.out; have h2 := hp3.out.size; rcases hk with hk | hk <;> omega)); refine (brk_made.calls 2 126 (fun k => W2.heap.size ≤ k) (some ⟨gn, 0, none⟩) 1 [toS xq] _ _ _ _ _ _ HS.out (made_un 126 xq)).mono ?_; rintro e W5 ⟨v5, rfl, hv5, hb5⟩; obtain ⟨A5, c5, rfl⟩ := Kd.V_slice hv5; replace hv5 := Aside0.mk hv5; replace hb5 := Aside0.mk hb5)
        | ((with_reducible refine gate_ (.store 52 (.tmp 2) (.tmp 17)) rfl ?_); have BK5 := Aside0.mk (blk_below (blk_below (keep_blk hp3.out.2.2 NG.out BK2.out) hl4.out) hb5.out); refine put_event (g := b2) (seg := cell5 (toS (.un 126 xq)) (.slice A5 1 c5)) rfl rfl rfl rfl rfl BK5.out size52 rfl (cell5_one _ ⟨A5, 1, c5, rfl⟩) ?_; intro W6 hW6 hg6 hs6; replace hW6 := Aside0.mk hW6; replace hg6 := Aside0.mk hg6; replace hs6 := Aside0.mk hs6)
        | fail)
      have HP5 := Aside0.mk (((HP2.out.next hp3.out).below hl4.out).below hb5.out)
      have HK6 := kept_step (kept_refl W5 (fun k => k = b2)) hg6.out (fun p e => by cases e; exact .inl rfl)
      have HG5 := Aside0.mk (show b2 < W2.heap.size ∧ w.heap.size ≤ W2.heap.size ∧ W2.heap.size ≤ W4.heap.size from ⟨blk_lt BK2.out, HP2.out.size, by have h1 := hp3.out.size; have h2 := hl4.out.size; omega⟩)
      exact bodyPost_ret (results_cell_row rfl _ _ b2 52 (cell5 (toS (.un 126 xq)) (.slice A5 1 c5)).toArray (0, 0) _ rfl hW6.out Tryd.underlying52 rfl (by kernel_rfl)) rfl ⟨_, rfl, ⟨_, rfl, Kd.V_mono (ok := fun k => W2.heap.size ≤ k) (Kd.V_kept (Kd.V_mono hv5.out (fun k hk => hk.elim id (fun h => Nat.le_trans HG5.out.2.2 h))) HK6 (fun k hk he => by have := HG5.out; omega)) (fun k hk => Nat.le_trans HG5.out.2.1 hk)⟩, HP5.out.grown hg6.out (fun e => NG.out (Option.some.inj e).symm) (fun k e => by cases e; exact GE.out) HW.out⟩
    · have d2 : ((op.toNat : Int) == 45) = false := beq_eq_false_iff_ne.2 (fun e => hop (UInt8.toNat_inj.1 (by have e2 : (op.toNat : Int) = 45 := e; show op.toNat = 45; omega)))
      have h := HH.out
      rw [if_neg hop0, if_neg hop] at h
      obtain ⟨o2, s2, hs2⟩ : ∃ o2 s2, signF [40] s1 b = (o2, s2) := ⟨_, _, rfl⟩
      rw [hs2] at h
      simp only at h
      have HS2 := Aside0.mk hs2
      have hl2 : s2.length ≤ 1000 := by
        have := sign_len [40] s1 b
        rw [hs2] at this
        simp only at this
        omega
      clear HH hs2 hop0 hop
      by_cases ho2 : o2 = 0
      · rw [if_pos ho2] at h
        have d3 : ((o2.toNat : Int) != 0) = false := by rw [ho2]; rfl
        have HQ := Aside0.mk (Option.some.inj h)
        clear h ho2
        go_wp2_with (first
          | (go_at_call 42; refine (sign_calls g s1 [40] b w0 _ HP2.out.1 HP2.out.2.1).mono ?_; rintro e W3 ⟨rfl, hI3, hB3, hK3⟩; rw [HS2.out] at hI3 ⊢; have HP3 := Aside0.mk (HP2.out.next ⟨hI3, hB3, hK3⟩); replace hK3 := Aside0.mk hK3; clear hI3 hB3)
          | (go_at_call 59; refine (leaf_calls g s2 b w0 _ hl2 HP3.out.1 HP3.out.2.1).mono ?_; rintro e W4 ⟨v, rfl, hx4, hp4⟩; rw [HQ.out] at hx4 hp4; obtain ⟨v4, rfl, hv4⟩ := hx4; obtain ⟨A4, c4, rfl⟩ := Kd.V_slice hv4; replace hv4 := Aside0.mk hv4; replace hp4 := Aside0.mk hp4)
          | ((with_reducible refine gate_ (.store 52 (.tmp 2) (.tmp 37)) rfl ?_); have BK4 := Aside0.mk (keep_blk hp4.out.2.2 NG.out (keep_blk hK3.out NG.out BK2.out)); refine put_event (g := b2) (seg := cell5 (toS x) (.slice A4 (toS x).f3.length c4)) rfl rfl rfl rfl rfl BK4.out size52 rfl (cell5_one _ ⟨A4, _, c4, rfl⟩) ?_; intro W6 hW6 hg6 hs6; replace hW6 := Aside0.mk hW6; replace hg6 := Aside0.mk hg6; replace hs6 := Aside0.mk hs6)
          | fail)
        have HP4 := Aside0.mk (HP3.out.next hp4.out)
        have HK6 := kept_step (kept_refl W4 (fun k => k = b2)) hg6.out (fun p e => by cases e; exact .inl rfl)
        have HG5 := Aside0.mk (show b2 < W3.heap.size ∧ w.heap.size ≤ W3.heap.size from ⟨blk_lt (keep_blk hK3.out NG.out BK2.out), HP3.out.size⟩)
        exact bodyPost_ret (results_cell_row rfl _ _ b2 52 (cell5 (toS x) (.slice A4 (toS x).f3.length c4)).toArray (0, 0) _ rfl hW6.out Tryd.underlying52 rfl (by kernel_rfl)) rfl ⟨_, rfl, ⟨_, rfl, Kd.V_mono (ok := fun k => W3.heap.size ≤ k) (Kd.V_kept hv4.out HK6 (fun k hk he => by have := HG5.out; omega)) (fun k hk => Nat.le_trans HG5.out.2 hk)⟩, HP4.out.grown hg6.out (fun e => NG.out (Option.some.inj e).symm) (fun k e => by cases e; exact GE.out) HW.out⟩
      · rw [if_neg ho2] at h
        have d3 : ((o2.toNat : Int) != 0) = true := bne_iff_ne.2 (fun e => ho2 (UInt8.toNat_inj.1 (by have e2 : (o2.toNat : Int) = 0 := e; show o2.toNat = 0; omega)))
        obtain ⟨⟨xq, sq, bq⟩, h1, h2⟩ := Option.bind_eq_some_iff.1 h
        simp only at h2
        have HQ := Aside0.mk h1
        have H2 := Aside0.mk h2
        clear h h1 h2 ho2
        go_upto_region 8 with (first
          | (go_at_call 42; refine (sign_calls g s1 [40] b w0 _ HP2.out.1 HP2.out.2.1).mono ?_; rintro e W3 ⟨rfl, hI3, hB3, hK3⟩; rw [HS2.out] at hI3 ⊢; have HP3 := Aside0.mk (HP2.out.next ⟨hI3, hB3, hK3⟩); replace hK3 := Aside0.mk hK3; clear hI3 hB3)
          | (go_at_call 29; refine (HBA.out 0 (by omega) g s2 b w0 _ xq sq bq HQ.out hl2 HP3.out.1 HP3.out.2.1).mono ?_; rintro e W4 ⟨v, rfl, hx4, hp4⟩; obtain ⟨v4, rfl, hv4⟩ := hx4; obtain ⟨A4, c4, rfl⟩ := Kd.V_slice hv4; replace hv4 := Aside0.mk hv4; replace hp4 := Aside0.mk hp4)
          | ((with_reducible refine gate_ (.alloc 52) rfl ?_); refine box_event ?hg (N := 3) ?hd (cs := #[.int .u8 0, .int .i64 0, .string (⟨#[]⟩ : ByteArray), .slice none 0 0, .int .i64 0]) (t := 52) ?hr ?_; (case hd => rfl); (case hg => rfl); (case hr => first | (go_simp; done) | (go_simp; rfl)); intro b3 hb3 W5 hbx5 hbl5; replace hb3 := Aside0.mk hb3; replace hbx5 := Aside0.mk hbx5; replace hbl5 := Aside0.mk hbl5)
          | ((with_reducible refine gate_ (.store 52 (.tmp 3) (.tmp 22)) rfl ?_); refine put_event (g := b3) (seg := cell5 (toS xq) (.slice A4 (toS xq).f3.length c4)) rfl rfl rfl rfl rfl hbx5.out size52 rfl (cell5_one _ ⟨A4, _, c4, rfl⟩) ?_; intro W6 hW6 hg6 hs6; replace hW6 := Aside0.mk hW6; replace hg6 := Aside0.mk hg6; replace hs6 := Aside0.mk hs6)
          | fail)
        have HG5 := Aside0.mk (show b2 < W3.heap.size ∧ w.heap.size ≤ W3.heap.size ∧ W4.heap.size ≤ b3 ∧ b2 ≠ b3 ∧ g ≠ b3 ∧ g < W3.heap.size ∧ w.heap.size ≤ b3 from by
          have h1 := blk_lt (keep_blk hK3.out NG.out BK2.out)
          have h2 := HP3.out.size
          have h3 := hb3.out
          have h4 := hp4.out.size
          have h5 := HP3.out.lt
          omega)
        have HP6 := Aside0.mk (((HP3.out.next hp4.out).below hbl5.out).grown hg6.out (fun e => HG5.out.2.2.2.2.1 (Option.some.inj e)) (fun k e => by cases e; exact HG5.out.2.2.2.2.2.2) HW.out)
        have BK6 := Aside0.mk (blk_grown (blk_below (keep_blk hp4.out.2.2 NG.out (keep_blk hK3.out NG.out BK2.out)) hbl5.out) hg6.out (fun e => HG5.out.2.2.2.1 (Option.some.inj e)))
        have HK6 := Aside0.mk (kept_step (kept_below (kept_refl W4 (fun k => k = g ∨ k = b2)) hbl5.out) hg6.out (fun p e => by cases e; exact .inr HG5.out.2.2.1))
        clear hbx5 hbl5 hb3 hg6 hs6 HP3 HP2 BK2 hK3 hp4
        have hc1 := cellS74_1 HP6.out.1.1
        have hf1 := blk_frozen HP6.out.1.1 1
        cases bq
        case' true =>
          have h2 := H2.out
          simp only [if_true, Option.some.injEq, Prod.mk.injEq] at h2
          obtain ⟨rfl, rfl, rfl⟩ := h2
          go_upto_region 9 with (fail)
          have HP8 := Aside0.mk (HP6.out.set1 true)
          have BK8 := Aside0.mk (blk_far BK6.out (p := ⟨g, 1, none⟩) (fun e => NG.out e) (.bool true))
          have B38 := Aside0.mk (blk_far hW6.out (p := ⟨g, 1, none⟩) (fun e => HG5.out.2.2.2.2.1 e.symm) (.bool true))
          have HK8 := Aside0.mk (kept_step HK6.out (gb_set g 1 W6 (.bool true)) (fun p e => by cases e; exact .inl (.inl rfl)))
          generalize W6.setCell ⟨g, 1, none⟩ (.bool true) = W8 at HP8 BK8 B38 HK8 ⊢
        case' false =>
          have h2 := H2.out
          simp only [Bool.false_eq_true, if_false, Option.some.injEq, Prod.mk.injEq] at h2
          obtain ⟨rfl, rfl, h3⟩ := h2
          have d4 : (((signF [41] sq false).1.toNat : Int) == 0) = b' := by
            rw [← h3]
            rw [Bool.eq_iff_iff, beq_iff_eq, beq_iff_eq]
            exact ⟨fun e => UInt8.toNat_inj.1 (by have e2 : ((signF [41] sq false).1.toNat : Int) = 0 := e; show (signF [41] sq false).1.toNat = 0; omega), fun e => by rw [e]; rfl⟩
          clear h3
          go_upto_region 9 with (first
            | (go_at_call 42; refine (sign_calls g sq [41] false w0 _ HP6.out.1 HP6.out.2.1).mono ?_; rintro e W7 ⟨rfl, hI7, hB7, hK7⟩; have HP7 := Aside0.mk (HP6.out.next ⟨hI7, hB7, hK7⟩); replace hK7 := Aside0.mk hK7; clear hI7 hB7; have hf1 := blk_frozen HP7.out.1.1 1; have hc1 := cellS74_1 HP7.out.1.1)
            | fail)
          have HP8 := Aside0.mk (HP7.out.set1 b')
          have BK8 := Aside0.mk (blk_far (keep_blk hK7.out NG.out BK6.out) (p := ⟨g, 1, none⟩) (fun e => NG.out e) (.bool b'))
          have B38 := Aside0.mk (blk_far (keep_blk hK7.out (fun e => HG5.out.2.2.2.2.1 e.symm) hW6.out) (p := ⟨g, 1, none⟩) (fun e => HG5.out.2.2.2.2.1 e.symm) (.bool b'))
          have HK8 := Aside0.mk (kept_step (kept_keep HK6.out hK7.out (.inl rfl)) (gb_set g 1 W7 (.bool b')) (fun p e => by cases e; exact .inl (.inl rfl)))
          generalize W7.setCell ⟨g, 1, none⟩ (.bool b') = W8 at HP8 BK8 B38 HK8 ⊢
        all_goals (
          clear hc1 hf1 HP6 BK6 HK6 hW6
          go_wp2_with (first
            | ((with_reducible refine gate_ (.load 52 (.tmp 3)) rfl ?_); refine load_event rfl rfl rfl B38.out Tryd.underlying52 rfl (by kernel_rfl) ?_)
            | ((with_reducible refine gate_ (.store 52 (.tmp 2) (.tmp 35)) rfl ?_); refine put_event (g := b2) (seg := cell5 (toS xq) (.slice A4 (toS xq).f3.length c4)) rfl rfl rfl rfl rfl BK8.out size52 rfl (cell5_one _ ⟨A4, _, c4, rfl⟩) ?_; intro W9 hW9 hg9 hs9; replace hW9 := Aside0.mk hW9; replace hg9 := Aside0.mk hg9; replace hs9 := Aside0.mk hs9)
            | fail)
          have HK9 := kept_step HK8.out hg9.out (fun p e => by cases e; exact .inl (.inr rfl))
          exact bodyPost_ret (results_cell_row rfl _ _ b2 52 (cell5 (toS xq) (.slice A4 (toS xq).f3.length c4)).toArray (0, 0) _ rfl hW9.out Tryd.underlying52 rfl (by kernel_rfl)) rfl ⟨_, rfl, ⟨_, rfl, Kd.V_mono (ok := fun k => W3.heap.size ≤ k) (Kd.V_kept hv4.out HK9 (fun k hk he => by have := HG5.out; rcases he with rfl | rfl <;> omega)) (fun k hk => Nat.le_trans HG5.out.2.1 hk)⟩, HP8.out.grown hg9.out (fun e => NG.out (Option.some.inj e).symm) (fun k e => by cases e; exact GE.out) HW.out⟩)
end Go.Proofs.YtmageoieajhhdaaDoor.Bk
