/- Conditions: what must be in any case, walked. -/
import Derived.Test.YtmageoieajhhdaaDoorBkQ
namespace Go.Proofs.YtmageoieajhhdaaDoor.Bk
open Go Go.RowKit Go.Proofs.YtmageoieajhhdaaDoorW.PrintWords Go.Proofs.YtmageoieajhhdaaDoorW.PrintLast Go.Proofs.YtmageoieajhhdaaDoorW.PrintMore Go.Proofs.YtmageoieajhhdaaDoor.PBrkWritten Go.Proofs.YtmageoieajhhdaaDoor.RegionVal
open Go.Lib hiding intOf
set_option linter.unusedVariables false
set_option linter.unusedSimpArgs false
def flatV (l : Vs) : List Value := l.flatMap (fun v => [.string v.1, .int .i64 v.2])
theorem flatV_get : ∀ (l : Vs) (j i : Nat) (p : ByteArray × Int) (u : Value), l[j]? = some p → ([.string p.1, .int .i64 p.2] : List Value)[i]? = some u → (flatV l)[j * 2 + i]? = some u
  | [], j, i, p, u, h, _ => by simp at h
  | v :: r, 0, i, p, u, h, hu => by
    have : v = p := by simpa using h
    subst this
    have hi : i < 2 := by
      have := (List.getElem?_eq_some_iff.1 hu).1
      simpa using this
    show (([.string v.1, .int .i64 v.2] : List Value) ++ flatV r)[0 * 2 + i]? = some u
    rw [Nat.zero_mul, Nat.zero_add, List.getElem?_append_left (by simpa using hi)]
    exact hu
  | v :: r, j + 1, i, p, u, h, hu => by
    have h2 := flatV_get r j i p u (by simpa using h) hu
    show (([.string v.1, .int .i64 v.2] : List Value) ++ flatV r)[(j + 1) * 2 + i]? = some u
    rw [List.getElem?_append_right (by simp; omega)]
    rw [show (j + 1) * 2 + i - ([.string v.1, .int .i64 v.2] : List Value).length = j * 2 + i by simp; omega]
    exact h2
theorem litV_C {W : World} {gn : Nat} (l : Vs) (hb : W.heap[gn]? = some (.cells (flatV l).toArray 49 (0, 0))) (hm : l.length ≤ 1000) : Kd.C kV W (some ⟨gn, 0, none⟩) l.length l := by
  refine ⟨rfl, by omega, fun _ => ⟨_, rfl, fun j p hj => ⟨[.string p.1, .int .i64 p.2], rfl, ⟨[.string p.1], [.int .i64 p.2], rfl, rfl, rfl⟩, fun i u hu => ?_⟩⟩⟩
  rw [Go.Proofs.YtmageoieajhhdaaDoorW.PrintWords.add_plain, blk_cell hb, List.getElem?_toArray]
  exact flatV_get l j i p u hj hu
section
variable {P : Program} {ops : Array Oper} {rest : List Oper} {o : Oper} {a : Act} {Q : Exit → Act → World → Prop}
theorem lit_eventT {W : World} (t : TypeId) (hgd : o.guard = none) {N : Tmp} (_hd : o.dst = some N) (m : Nat) (inner : List Value)
    (hrun : (execOp a.eval o).run P W = .ok (.value (.slice (some ⟨W.heap.size, 0, none⟩) m m)) (W.alloc (.cells inner.toArray t (0, 0))))
    (h : ∀ g, g = W.heap.size → ∀ w1, w1.heap[g]? = some (.cells inner.toArray t (0, 0)) → Below W.heap.size W w1 → wpList P ops Q rest (a.put o.dst (.slice (some ⟨g, 0, none⟩) m m)) w1) : wpList P ops Q (o :: rest) a W :=
  Kd.event_run hgd hrun (h _ rfl _ (blk_new W _) (below_alloc (Below.refl _ _) _))
end
def l1 : Vs := [(bs [120], -2), (bs [121], 3)]
def t1 : Bs := [49, 32, 43, 32, 50, 42, 45, 120, 32, 61, 32, 53, 32, 38, 32, 33, 40, 121, 60, 51, 41]
def t2 : Bs := [40, 40, 97, 41, 41, 32, 45, 32, 40, 98, 32, 45, 32, 48, 48, 55, 41, 32, 61, 32, 40, 99, 32, 124, 32, 100, 41]
def x1 : Ex := .bin 38 (.bin 61 (.bin 43 (.num 1) (.bin 42 (.num 2) (.un 126 (.var [120])))) (.num 5)) (.un 33 (.bin 60 (.var [121]) (.num 3)))
def x2 : Ex := .bin 61 (.bin 45 (.var [97]) (.bin 45 (.var [98]) (.num 7))) (.bin 124 (.var [99]) (.var [100]))
theorem p1 : parseF t1 = (x1, 0) := by kernel_rfl
theorem p2 : parseF t2 = (x2, 0) := by kernel_rfl
theorem p3 : parseF [120] = (.var [120], 0) := by kernel_rfl
theorem p4 : (parseF [97, 61, 98, 61, 99]).2 = 4 := by kernel_rfl
theorem p5 : (parseF []).2 = 4 := by kernel_rfl
theorem v1 : valueF t1 l1 = (1, 0) := by
  unfold valueF
  rw [p1]
  kernel_rfl
theorem w2 : writeF t2 = ([97, 45, 40, 98, 45, 55, 41, 61, 40, 99, 124, 100, 41], 0) := by
  unfold writeF
  rw [p2]
  have h7 : Lib.itoa 7 = [55] := by
    unfold Lib.itoa
    rw [if_neg (by decide)]
    exact Lib.decDigits_one (by decide)
  have h : wr x2 0 = par (decide (2 < 0)) ((par (decide (3 < 3)) ((par (decide (6 < 3)) [97]) ++ 45 :: (par (decide (3 < 4)) ((par (decide (6 < 3)) [98]) ++ 45 :: (par (decide (6 < 4)) (Lib.itoa 7)))))) ++ 61 :: (par (decide (0 < 3)) ((par (decide (6 < 0)) [99]) ++ 124 :: (par (decide (6 < 1)) [100])))) := rfl
  rw [if_neg (by simp), h, h7]
  rfl
def L3 : List Vs := [[(bs [120], 4)], [(bs [120], 0)], [(bs [120], 0)]]
theorem f3 : firstF [120] L3 2 true = (0, true, 0) := by
  unfold firstF
  rw [p3]
  kernel_rfl
set_option maxHeartbeats 8000000 in
set_option maxRecDepth 100000 in
theorem bbegun_calls (W : World) (hT : Tab W) : Calls Tryd.prog 9 #[] W fun e W' => e = .returned (.bool true) ∧ Below W.heap.size W W' := by
  have HT := Aside0.mk hT
  clear hT
  go_enter Tryd.func9, Tryd.ntmps9
  go_upto_region 2 with (first
    | ((with_reducible refine gate_dst (N := 11) rfl ?_); refine lit_eventT 49 ?hg (N := 11) ?hd 2 (flatV l1) ?hr ?_; (case hd => rfl); (case hg => rfl); (case hr => first | (go_simp; done) | (go_simp; rfl)); intro g1 hg1 W1 hb1 hl1; replace hg1 := Aside0.mk hg1; replace hb1 := Aside0.mk hb1; replace hl1 := Aside0.mk hl1)
    | (go_at_call 11; refine (Value_calls t1 l1 _ (some ⟨g1, 0, none⟩) 2 (litV_C l1 hb1.out (by decide))).mono ?_; rintro e W2 ⟨rfl, hb2⟩; rw [v1]; replace hb2 := Aside0.mk hb2)
    | fail)
  have HB2 := Aside0.mk (below_step hl1.out hb2.out)
  clear hb1 hl1 hb2 hg1
  go_upto_region 3 with (first
    | (go_at_call 10; refine (Write_calls t2 _ (Tab.below HT.out HB2.out)).mono ?_; rintro e W3 ⟨rfl, hb3⟩; rw [w2]; replace hb3 := Aside0.mk hb3)
    | fail)
  have HB3 := Aside0.mk (below_step HB2.out hb3.out)
  clear HB2 hb3
  go_upto_region 4 with (first
    | ((with_reducible refine gate_dst (N := 21) rfl ?_); refine lit_eventT 49 ?hg (N := 21) ?hd 1 (flatV [(bs [120], 4)]) ?hr ?_; (case hd => rfl); (case hg => rfl); (case hr => first | (go_simp; done) | (go_simp; rfl)); intro g4 hg4 W4 hb4 hl4; replace hg4 := Aside0.mk hg4; replace hb4 := Aside0.mk hb4; replace hl4 := Aside0.mk hl4)
    | ((with_reducible refine gate_dst (N := 23) rfl ?_); refine lit_eventT 49 ?hg (N := 23) ?hd 1 (flatV [(bs [120], 0)]) ?hr ?_; (case hd => rfl); (case hg => rfl); (case hr => first | (go_simp; done) | (go_simp; rfl)); intro g5 hg5 W5 hb5 hl5; replace hg5 := Aside0.mk hg5; replace hb5 := Aside0.mk hb5; replace hl5 := Aside0.mk hl5)
    | ((with_reducible refine gate_dst (N := 25) rfl ?_); refine lit_eventT 49 ?hg (N := 25) ?hd 1 (flatV [(bs [120], 0)]) ?hr ?_; (case hd => rfl); (case hg => rfl); (case hr => first | (go_simp; done) | (go_simp; rfl)); intro g6 hg6 W6 hb6 hl6; replace hg6 := Aside0.mk hg6; replace hb6 := Aside0.mk hb6; replace hl6 := Aside0.mk hl6)
    | ((with_reducible refine gate_dst (N := 26) rfl ?_); refine lit_eventT 22 ?hg (N := 26) ?hd 3 [.slice (some ⟨g4, 0, none⟩) 1 1, .slice (some ⟨g5, 0, none⟩) 1 1, .slice (some ⟨g6, 0, none⟩) 1 1] ?hr ?_; (case hd => rfl); (case hg => rfl); (case hr => first | (go_simp; done) | (go_simp; rfl)); intro g7 hg7 W7 hb7 hl7; replace hg7 := Aside0.mk hg7; replace hb7 := Aside0.mk hb7; replace hl7 := Aside0.mk hl7)
    | (go_at_call 12; refine (First_calls [120] L3 2 true _ (some ⟨g7, 0, none⟩) 3 ?_).mono ?_; rotate_left; rintro e W8 ⟨rfl, hb8⟩; rw [f3]; replace hb8 := Aside0.mk hb8)
    | fail)
  · have HB8 := Aside0.mk (below_step (below_step (below_step (below_step (below_step HB3.out hl4.out) hl5.out) hl6.out) hl7.out) hb8.out)
    clear hg4 hb4 hl4 hg5 hb5 hl5 hg6 hb6 hl6 hg7 hb7 hl7 hb8 HB3
    go_wp2_with (first
      | (go_at_call 13; refine (Check_calls _ _).mono ?_; rintro e W9 ⟨rfl, hb9⟩; (first | rw [p4] | rw [p5]); have HB9 := Aside0.mk (below_step HB8.out hb9); clear hb9 HB8; have HB8 := HB9; clear HB9)
      | fail)
    exact bodyPost_ret (v := .bool true) (by simp [results, Tryd.f9, go_sem]) rfl ⟨rfl, HB8.out⟩
  · have c4 := litV_C [(bs [120], 4)] (blk_below (blk_below (blk_below hb4.out hl5.out) hl6.out) hl7.out) (by decide)
    have c5 := litV_C [(bs [120], 0)] (blk_below (blk_below hb5.out hl6.out) hl7.out) (by decide)
    have c6 := litV_C [(bs [120], 0)] (blk_below hb6.out hl7.out) (by decide)
    refine ⟨rfl, by decide, fun _ => ⟨_, rfl, fun j p hj => ?_⟩⟩
    match j, hj with
    | 0, hj => cases hj; exact ⟨[.slice (some ⟨g4, 0, none⟩) 1 1], rfl, ⟨_, 1, rfl, Nat.le_refl _, c4⟩, fun i u hu => by
        cases i with
        | zero => cases hu; rw [Go.Proofs.YtmageoieajhhdaaDoorW.PrintWords.add_plain, blk_cell hb7.out]; rfl
        | succ i => simp at hu⟩
    | 1, hj => cases hj; exact ⟨[.slice (some ⟨g5, 0, none⟩) 1 1], rfl, ⟨_, 1, rfl, Nat.le_refl _, c5⟩, fun i u hu => by
        cases i with
        | zero => cases hu; rw [Go.Proofs.YtmageoieajhhdaaDoorW.PrintWords.add_plain, blk_cell hb7.out]; rfl
        | succ i => simp at hu⟩
    | 2, hj => cases hj; exact ⟨[.slice (some ⟨g6, 0, none⟩) 1 1], rfl, ⟨_, 1, rfl, Nat.le_refl _, c6⟩, fun i u hu => by
        cases i with
        | zero => cases hu; rw [Go.Proofs.YtmageoieajhhdaaDoorW.PrintWords.add_plain, blk_cell hb7.out]; rfl
        | succ i => simp at hu⟩
    | j + 3, hj => simp [L3] at hj
end Go.Proofs.YtmageoieajhhdaaDoor.Bk
