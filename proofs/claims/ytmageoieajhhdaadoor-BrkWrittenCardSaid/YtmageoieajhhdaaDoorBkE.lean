/- Conditions: binary, walked. -/
import Derived.Test.YtmageoieajhhdaaDoorBkD
namespace Go.Proofs.YtmageoieajhhdaaDoor.Bk
open Go Go.RowKit Go.Proofs.YtmageoieajhhdaaDoorW.PrintWords Go.Proofs.YtmageoieajhhdaaDoorW.PrintLast Go.Proofs.YtmageoieajhhdaaDoorW.PrintMore Go.Proofs.YtmageoieajhhdaaDoor.PBrkWritten Go.Proofs.YtmageoieajhhdaaDoor.RegionVal
open Go.Lib hiding intOf
set_option linter.unusedVariables false
set_option linter.unusedSimpArgs false
theorem ranks_f {k : Nat} (hk : k ≤ 4) : brk_ranks.f (k : Int) = some (bs (ranksF k)) := by
  have hc : k = 0 ∨ k = 1 ∨ k = 2 ∨ k = 3 ∨ k = 4 := by omega
  rcases hc with rfl | rfl | rfl | rfl | rfl <;> rfl
section
variable {P : Program} {L : List Oper} {ds : List Nat} {T U S : World → Prop} {a0 : Act} {Q : Exit → Act → World → Prop} {K : List (Nat × Value) → World → Prop} {env : List (Nat × Value)} {rest : List (Nat × Bool)} {i : Nat} {w : World} {d : Nat} {Ty : TypeId} {pos : String} {after : Array Edge} {g : Option (Nat × Bool)}
theorem wp_dirty1 (ds : List Nat) (T U : World → Prop) (hTU : ∀ w, T w → U w) (pre post : List (Nat × Bool)) (hc : (Region.noSelect L.toArray && dstOk L a0.tmps.size && (DT.leaf pre post).ok L.toArray ds (Array.replicate L.length false) && Nat.ble (DT.leaf pre post).depth L.length) = true) (hm : P.follows .mixedOrders = true) {id : Nat} {w : World} (hS : T w.drew)
    (hQ : ∀ c a d v w, Q (.panic c) (Act.put a d v) w → Q (.panic c) a w)
    (h : SeqE P L T a0 (fun env w => SeqE P L U a0 (fun F w' => Q .normal (puts a0 F) w') post env w) pre [] w.drew) : (Code.region id L.toArray true).wp P Q a0 w :=
  wp_dirty ds T U hTU (fun a F w' => Q .normal (puts a F) w') (.leaf pre post) hc hm hS hQ (fun _ _ h => h) h
theorem se_load {t : TypeId} {x : Operand} {vx v : Value} (ho : want.nthO L i = some ⟨some d, .load t x, Ty, pos, after, g⟩) (hg : want L a0 env g = some true) (hx : rdo a0 env x = some vx)
    (hr : ∀ w, S w → Sem.run P (Instr.loadAt t vx) w = .ok v w) (h : SeqE P L S a0 K rest ((d, v) :: env) w) : SeqE P L S a0 K ((i, false) :: rest) env w :=
  se_gen ho hg (fun w hw => by
    simp only [execOp, ev_of hx, Sem.run_bind]
    rw [hr w hw]
    rfl) h
end
theorem run_load52 {w : World} {g : Nat} {cs : Array Value} (h : w.heap[g]? = some (.cells cs 52 (0, 0))) (hs : cs.size = 5) : Sem.run Tryd.prog (Instr.loadAt 52 (.pointer (some ⟨g, 0, none⟩))) w = .ok (.agg cs) w := by
  simp only [Instr.loadAt, Instr.sureAddr, Sem.run_bind, Sem.run_pure, Result.andThen_ok, run_loadVar_row w g 52 52 cs (0, 0) _ h Tryd.underlying52 rfl (by rw [hs]; exact size52)]
theorem put_run {W : World} {g : Nat} {seg : List Value} {cur : Array Value} (hh : W.heap[g]? = some (.cells cur 52 (0, 0))) (ht : seg.length = 5) (hl : cur.size = 5) (h1 : ∀ q ∈ seg, q.oneCell' = true) :
    ∃ W', Sem.run Tryd.prog (Instr.storeAt 52 (.pointer (some ⟨g, 0, none⟩)) (.agg seg.toArray)) W = .ok () W' ∧ W'.heap[g]? = some (.cells seg.toArray 52 (0, 0)) ∧ W.grownBy W' (some g) := by
  have hr := run_store_run (P := Tryd.prog) 52 (.agg seg.toArray) seg hh (o := 0) (by simp [Value.cells]) (by rw [ht]; exact size52) (by omega) h1
  obtain ⟨cur', h3, h4, h5⟩ := setCells_row seg 0 W cur hh (by omega)
  obtain ⟨s1, s2, s3, s4⟩ := setCells_same g seg 0 W
  have e : cur' = seg.toArray := by
    apply Array.ext'
    rw [h5]
    simp [hl, ht]
  rw [e] at h3
  exact ⟨_, hr, h3, ⟨s1, s2, s3, by rw [s4]; exact Nat.le_refl _, fun k _ hk => setCells_far seg _ k (fun e => hk (by rw [e]))⟩⟩
theorem run_lit2 (w : World) (a0 a1 a2 a3 a4 c0 c1 c2 c3 c4 : Value) (h : ∀ v ∈ [a0, a1, a2, a3, a4, c0, c1, c2, c3, c4], v.oneCell' = true) : Sem.run Tryd.prog (Instr.buildSlice 50 2 #[(0, .agg #[a0, a1, a2, a3, a4]), (1, .agg #[c0, c1, c2, c3, c4])]) w = .ok (.slice (some ⟨w.heap.size, 0, none⟩) 2 2) (w.alloc (.cells #[a0, a1, a2, a3, a4, c0, c1, c2, c3, c4] 52)) := by
  go_simp
set_option maxHeartbeats 8000000 in
set_option maxRecDepth 100000 in
theorem bin_step (f : Nat) (HU : UnOK f) (HBI : ∀ f' ≤ f, BinOK f') : BinOK (f + 1) := by
  intro k hk g s b w0 w x s' b' h hl hI hB
  have HW := Aside0.mk hB.size
  have HP := Aside0.mk (PI.init hI hB)
  have HUA := Aside0.mk HU
  have HBA := Aside0.mk HBI
  clear hI hB HU HBI
  rw [runF] at h
  by_cases hk5 : k = 5
  · rw [if_pos hk5] at h
    have HH := Aside0.mk h
    have d1 : ((k : Int) == 5) = true := beq_iff_eq.2 (by omega)
    clear h hk5
    go_enter Tryd.func29, Tryd.ntmps29
    go_wp2_with (first
      | ((with_reducible refine gate_ (.alloc 52) rfl ?_); refine box_event ?hg (N := 4) ?hd (cs := #[.int .u8 0, .int .i64 0, .string (⟨#[]⟩ : ByteArray), .slice none 0 0, .int .i64 0]) (t := 52) ?hr ?_; (case hd => rfl); (case hg => rfl); (case hr => first | (go_simp; done) | (go_simp; rfl)); intro b4 hb4 W1 hbx hbl; replace hb4 := Aside0.mk hb4; replace hbx := Aside0.mk hbx; replace hbl := Aside0.mk hbl)
      | (go_at_call 41; have HP1 := Aside0.mk (HP.out.below hbl.out); refine (HUA.out g s b w0 _ x s' b' HH.out hl HP1.out.1 HP1.out.2.1).mono ?_; rintro e W2 ⟨v, rfl, hx2, hp2⟩; obtain ⟨v2, rfl, hv2⟩ := hx2; obtain ⟨A2, c2, rfl⟩ := Kd.V_slice hv2; replace hv2 := Aside0.mk hv2; replace hp2 := Aside0.mk hp2)
      | ((with_reducible refine gate_ (.store 52 (.tmp 4) (.tmp 10)) rfl ?_); have NG := Aside0.mk (show b4 ≠ g from fun e => by have := HP.out.lt; have := hb4.out; omega); have BK2 := Aside0.mk (keep_blk hp2.out.2.2 NG.out hbx.out); refine put_event (g := b4) (seg := cell5 (toS x) (.slice A2 (toS x).f3.length c2)) rfl rfl rfl rfl rfl BK2.out size52 rfl (cell5_one _ ⟨A2, _, c2, rfl⟩) ?_; intro W3 hW3 hg3 hs3; replace hW3 := Aside0.mk hW3; replace hg3 := Aside0.mk hg3; replace hs3 := Aside0.mk hs3)
      | fail)
    have HP2 := Aside0.mk (HP1.out.next hp2.out)
    have HK3 := kept_step (kept_refl W2 (fun j => j = b4)) hg3.out (fun p e => by cases e; exact .inl rfl)
    have HG := Aside0.mk (show b4 < W1.heap.size ∧ w.heap.size ≤ W1.heap.size ∧ w.heap.size ≤ b4 from ⟨blk_lt hbx.out, hbl.out.size, by have := hb4.out; omega⟩)
    exact bodyPost_ret (results_cell_row rfl _ _ b4 52 (cell5 (toS x) (.slice A2 (toS x).f3.length c2)).toArray (0, 0) _ rfl hW3.out Tryd.underlying52 rfl (by kernel_rfl)) rfl ⟨_, rfl, ⟨_, rfl, Kd.V_mono (ok := fun j => W1.heap.size ≤ j) (Kd.V_kept hv2.out HK3 (fun j hj he => by have := HG.out; omega)) (fun j hj => Nat.le_trans HG.out.2.1 hj)⟩, HP2.out.grown hg3.out (fun e => NG.out (Option.some.inj e).symm) (fun j e => by cases e; exact HG.out.2.2) HW.out⟩
  · rw [if_neg hk5] at h
    obtain ⟨⟨y0, s0, b0⟩, h1, h2⟩ := Option.bind_eq_some_iff.1 h
    simp only at h2
    have hk4 : k ≤ 4 := by omega
    have HQ := Aside0.mk h1
    have HL := Aside0.mk h2
    have hl0 := Aside0.mk (show s0.length ≤ 1000 from by
      have := run_len (show (Job.bin (k + 1)).ok by simp only [Job.ok]; omega) h1
      simp only at this
      omega)
    have d1 : ((k : Int) == 5) = false := beq_eq_false_iff_ne.2 (by omega)
    have z1 : (k : Int) ≤ 4 := by omega
    have HRK := Aside0.mk (ranks_f hk4)
    clear h h1 h2 hk5 hk
    go_enter Tryd.func29, Tryd.ntmps29
    go_upto_block 1 with (first
      | ((with_reducible refine gate_ (.alloc 52) rfl ?_); (with_reducible refine gate_dst (N := 4) rfl ?_); refine box_event ?hg (N := 4) ?hd (cs := #[.int .u8 0, .int .i64 0, .string (⟨#[]⟩ : ByteArray), .slice none 0 0, .int .i64 0]) (t := 52) ?hr ?_; (case hd => rfl); (case hg => rfl); (case hr => first | (go_simp; done) | (go_simp; rfl)); intro b4 hb4 W1 hbx hbl; replace hb4 := Aside0.mk hb4; replace hbx := Aside0.mk hbx; replace hbl := Aside0.mk hbl)
      | (go_at_call 29; have HP1 := Aside0.mk (HP.out.below hbl.out); refine (HBA.out f (Nat.le_refl _) (k + 1) (by omega) g s b w0 _ y0 s0 b0 HQ.out hl HP1.out.1 HP1.out.2.1).mono ?_; rintro e W2 ⟨v, rfl, hx2, hp2⟩; obtain ⟨v2, rfl, hv2⟩ := hx2; obtain ⟨A2, c2, rfl⟩ := Kd.V_slice hv2; replace hv2 := Aside0.mk hv2; replace hp2 := Aside0.mk hp2)
      | ((with_reducible refine gate_ (.alloc 52) rfl ?_); (with_reducible refine gate_dst (N := 5) rfl ?_); refine box_event ?hg (N := 5) ?hd (cs := #[.int .u8 0, .int .i64 0, .string (⟨#[]⟩ : ByteArray), .slice none 0 0, .int .i64 0]) (t := 52) ?hr ?_; (case hd => rfl); (case hg => rfl); (case hr => first | (go_simp; done) | (go_simp; rfl)); intro b5 hb5 W3 hbx5 hbl5; replace hb5 := Aside0.mk hb5; replace hbx5 := Aside0.mk hbx5; replace hbl5 := Aside0.mk hbl5)
      | ((with_reducible refine gate_ (.store 52 (.tmp 5) (.tmp 14)) rfl ?_); refine put_event (g := b5) (seg := cell5 (toS y0) (.slice A2 (toS y0).f3.length c2)) rfl rfl rfl rfl rfl hbx5.out size52 rfl (cell5_one _ ⟨A2, _, c2, rfl⟩) ?_; intro W4 hW4 hg4 hs4; replace hW4 := Aside0.mk hW4; replace hg4 := Aside0.mk hg4; replace hs4 := Aside0.mk hs4)
      | (go_at_call 43; refine (brk_ranks.calls (k : Int) _ _ HRK.out).mono ?_; rintro e W5 ⟨rfl, hb5r⟩; replace hb5r := Aside0.mk hb5r)
      | (go_at_call 42; have HP5 := Aside0.mk ((((HP1.out.next hp2.out).below hbl5.out).grown hg4.out (fun e => by have h1 := hb5.out; have h2 := hp2.out.lt; have h3 := Option.some.inj e; omega) (fun j e => by cases e; have h1 := hb5.out; have h2 := hp2.out.size; have h3 := hbl.out.size; omega) HW.out).below hb5r.out); refine (sign_calls g s0 (ranksF k) b0 w0 _ HP5.out.1 HP5.out.2.1).mono ?_; rintro e W6 ⟨rfl, hI6, hB6, hK6⟩; have HP6 := Aside0.mk (HP5.out.next ⟨hI6, hB6, hK6⟩); replace hK6 := Aside0.mk hK6; clear hI6 hB6)
      | fail)
    have HG := Aside0.mk (show b4 < W1.heap.size ∧ w.heap.size ≤ W1.heap.size ∧ w.heap.size ≤ b4 ∧ b4 ≠ b5 ∧ g ≠ b5 ∧ g ≠ b4 ∧ w.heap.size ≤ b5 ∧ W2.heap.size ≤ b5 ∧ g < w.heap.size ∧ W1.heap.size ≤ W2.heap.size from by
      have h1 := hb4.out
      have h2 := hb5.out
      have h3 := blk_lt hbx.out
      have h4 := hp2.out.size
      have h5 := HP.out.lt
      have h6 := hbl.out.size
      omega)
    have BK6 := Aside0.mk (keep_blk hK6.out (fun e => HG.out.2.2.2.2.2.1 e.symm) (blk_below (blk_grown (blk_below (keep_blk hp2.out.2.2 (fun e => HG.out.2.2.2.2.2.1 e.symm) hbx.out) hbl5.out) hg4.out (fun e => HG.out.2.2.2.1 (Option.some.inj e))) hb5r.out))
    have B56 := Aside0.mk (keep_blk hK6.out (fun e => HG.out.2.2.2.2.1 e.symm) (blk_below hW4.out hb5r.out))
    have HK6 := kept_keep (kept_below (kept_step (kept_below (kept_refl W2 (fun j => j = g ∨ j = b4)) hbl5.out) hg4.out (fun p e => by cases e; exact .inr HG.out.2.2.2.2.2.2.2.1)) hb5r.out) hK6.out (.inl rfl)
    have HV6 := Aside0.mk (Kd.V_mono (ok' := fun j => W1.heap.size ≤ j ∧ j ≠ b5) (Kd.V_kept (Kd.V_bound hv2.out) HK6 (fun j hj he => by have h1 := HG.out; have h2 := hj.1; rcases he with rfl | rfl <;> omega)) (fun j hj => ⟨hj.1, fun e => by have h1 := HG.out; have h2 := hj.2; omega⟩))
    clear hb4 hbx hbl HP1 HP hp2 hv2 hb5 hbx5 hbl5 hW4 hg4 hs4 hb5r HP5 hK6 HK6 HQ
    go_loopg [6] f (fun fl v6 wr => ∃ (s1 : Bs) (b1 : Bool) (y : Ex) (A : Option Addr) (c : Nat), v6 = .int .u8 ((signF (ranksF k) s1 b1).1.toNat : Int) ∧ Aside0 (s1.length ≤ 1000) ∧ Aside0 (runF fl (.loop k y) s1 b1 = some (x, s', b')) ∧ Aside0 (fl ≤ f) ∧
      Aside0 (wr.heap[b4]? = some (.cells #[.int .u8 0, .int .i64 0, .string (⟨#[]⟩ : ByteArray), .slice none 0 0, .int .i64 0] 52 (0, 0))) ∧ Aside0 (wr.heap[b5]? = some (.cells (cell5 (toS y) (.slice A (toS y).f3.length c)).toArray 52 (0, 0))) ∧
      Aside0 (Kd.V k52 52 wr 0 (fun j => W1.heap.size ≤ j ∧ j ≠ b5) (.slice A (toS y).f3.length c) (toS y).f3) ∧ Aside0 (PI w0 w wr g (signF (ranksF k) s1 b1).2 b1))
    case atStart => exact ⟨s0, b0, y0, A2, c2, rfl, hl0, HL, ⟨Nat.le_refl _⟩, BK6, B56, HV6, HP6⟩
    case round =>
      clear HL hl0 BK6 B56 HV6 HP6
      obtain ⟨s1, b1, y, A, c, rfl, hl1, HL, HF, BK, B5, HV, HPR⟩ := hrel
      cases gk with
      | zero => exact absurd HL.out (by simp [runF])
      | succ fl =>
        have h := HL.out
        rw [runF] at h
        obtain ⟨op, s2, hs2⟩ : ∃ op s2, signF (ranksF k) s1 b1 = (op, s2) := ⟨_, _, rfl⟩
        rw [hs2] at h HPR ⊢
        simp only at h HPR ⊢
        have hl2 : s2.length ≤ 1000 := by
          have h1 := sign_len (ranksF k) s1 b1
          have h2 := hl1.out
          rw [hs2] at h1
          simp only at h1
          omega
        clear hs2 HL hl1
        by_cases hop : op = 0
        · rw [if_pos hop] at h
          cases h
          have d2 : ((op.toNat : Int) != 0) = false := by rw [hop]; rfl
          clear hop
          go_wp2_with (first
            | ((with_reducible refine gate_ (.load 52 (.tmp 5)) rfl ?_); refine load_event rfl rfl rfl B5.out Tryd.underlying52 rfl (by kernel_rfl) ?_)
            | ((with_reducible refine gate_ (.store 52 (.tmp 4) (.tmp 35)) rfl ?_); refine put_event (g := b4) (seg := cell5 (toS x) (.slice A (toS x).f3.length c)) rfl rfl rfl rfl rfl BK.out size52 rfl (cell5_one _ ⟨A, _, c, rfl⟩) ?_; intro W9 hW9 hg9 hs9; replace hW9 := Aside0.mk hW9; replace hg9 := Aside0.mk hg9; replace hs9 := Aside0.mk hs9)
            | fail)
          have HK9 := kept_step (kept_refl wr (fun j => j = b4)) hg9.out (fun p e => by cases e; exact .inl rfl)
          exact bodyPost_ret (results_cell_row rfl _ _ b4 52 (cell5 (toS x) (.slice A (toS x).f3.length c)).toArray (0, 0) _ rfl hW9.out Tryd.underlying52 rfl (by kernel_rfl)) rfl ⟨_, rfl, ⟨_, rfl, Kd.V_mono (ok := fun j => W1.heap.size ≤ j ∧ j ≠ b5) (Kd.V_kept HV.out HK9 (fun j hj he => by have := HG.out; omega)) (fun j hj => Nat.le_trans HG.out.2.1 hj.1)⟩, HPR.out.grown hg9.out (fun e => HG.out.2.2.2.2.2.1 (Option.some.inj e)) (fun j e => by cases e; exact HG.out.2.2.1) HW.out⟩
        · rw [if_neg hop] at h
          obtain ⟨⟨z, s3, b3⟩, h1, h2⟩ := Option.bind_eq_some_iff.1 h
          simp only at h2
          have d2 : ((op.toNat : Int) != 0) = true := bne_iff_ne.2 (fun e => hop (UInt8.toNat_inj.1 (by have e2 : (op.toNat : Int) = 0 := e; show op.toNat = 0; omega)))
          have HQ := Aside0.mk h1
          have H2 := Aside0.mk h2
          have HL3 := Aside0.mk (show s3.length ≤ 1000 from by
            have := run_len (show (Job.bin (k + 1)).ok by simp only [Job.ok]; omega) h1
            simp only at this
            omega)
          clear h h1 h2 hop
          go_upto_region 7 with (fail)
          refine wp_dirty1 [8] (fun w' => w'.heap[b5]? = some (.cells (cell5 (toS y) (.slice A (toS y).f3.length c)).toArray 52 (0, 0))) (fun _ => True) (fun _ _ => trivial) [(0, false), (1, false), (2, false), (3, false), (4, false), (5, true), (6, true), (7, true)] [(8, true)] (by kernel_rfl) (by kernel_rfl) (blk_drew B5.out) (fun _ _ d _ _ h => by cases d <;> exact h) ?_
          refine se_move rfl rfl rfl ?_
          refine se_load (v := .agg (cell5 (toS y) (.slice A (toS y).f3.length c)).toArray) rfl rfl rfl (fun w' hw => run_load52 hw rfl) ?_
          refine se_move rfl rfl rfl ?_
          refine se_move rfl rfl rfl ?_
          refine se_bin (v := .int .i64 ((k + 1 : Nat) : Int)) rfl rfl rfl rfl (fun w' hw => by go_simp; rw [IntKind.wrap_i64]; omega) ?_
          have HPd := Aside0.mk (HPR.out.below (below_drew1 (Below.refl _ _)))
          refine se_call (vs := [.pointer (some ⟨g, 0, none⟩), .int .i64 ((k + 1 : Nat) : Int)]) rfl rfl Tryd.func29 (by kernel_rfl) rfl (by kernel_rfl) ?_
          refine (HBA.out fl (by have := HF.out; omega) (k + 1) (by omega) g s2 b1 w0 _ z s3 b3 HQ.out hl2 HPd.out.1 HPd.out.2.1).mono ?_
          rintro e W7 ⟨v, rfl, hx7, hp7⟩
          obtain ⟨v7, rfl, hv7⟩ := hx7
          obtain ⟨A7, c7, rfl⟩ := Kd.V_slice hv7
          have hb57 := keep_blk hp7.2.2 (fun e => HG.out.2.2.2.2.1 e.symm) (blk_drew B5.out)
          refine ⟨_, rfl, hb57, ?_⟩
          have hb5r : b5 < wr.heap.size := blk_lt B5.out
          have hvy : Kd.V k52 52 W7 0 (fun j => W1.heap.size ≤ j ∧ j ≠ b5) (.slice A (toS y).f3.length c) (toS y).f3 := Kd.V_keep (Kd.V_drew HV.out) hp7.2.2 (fun j hj e => by have h1 := HG.out; have h2 := hj.1; omega)
          have hvz : Kd.V k52 52 W7 0 (fun j => W1.heap.size ≤ j ∧ j ≠ b5) (.slice A7 (toS z).f3.length c7) (toS z).f3 := Kd.V_mono hv7 (fun j hj => by have h1 := HG.out; have h2 : wr.heap.size ≤ j := hj; constructor <;> omega)
          refine se_lit (vs := [(0, .agg (cell5 (toS y) (.slice A (toS y).f3.length c)).toArray), (1, .agg (cell5 (toS z) (.slice A7 (toS z).f3.length c7)).toArray)]) rfl rfl rfl (run_lit2 _ _ _ _ _ _ _ _ _ _ _ (by
            intro v hv
            simp only [List.mem_cons, List.not_mem_nil, or_false] at hv
            rcases hv with rfl | rfl | rfl | rfl | rfl | rfl | rfl | rfl | rfl | rfl <;> rfl)) (blk_alloc hb57 _) ?_
          have hvl := lit_V (W := W7) (gn := W7.heap.size) (reps2 (XV.fk ⟨_, rfl, hvy⟩) rfl (XV.fk ⟨_, rfl, hvz⟩) rfl) (blk_new W7 _) (below_alloc (Below.refl _ _) _) (by simp)
          have HS := Aside0.mk (Kd.V_mono (ok' := fun j => W1.heap.size ≤ j ∧ j ≠ b5) hvl (fun j hj => by
            rcases hj with hj | hj
            · exact hj.1
            · have h1 := HG.out
              have h2 := hp7.size
              have h3 : W7.heap.size = j := hj.symm
              have h4 : wr.heap.size ≤ W7.heap.size := h2
              constructor <;> omega))
          have HP8 := Aside0.mk ((HPd.out.next hp7).below (below_alloc (Below.refl _ _) (.cells (cell5 (toS y) (.slice A (toS y).f3.length c) ++ cell5 (toS z) (.slice A7 (toS z).f3.length c7)).toArray 52)))
          have HB8 := Aside0.mk (blk_alloc hb57 (.cells (cell5 (toS y) (.slice A (toS y).f3.length c) ++ cell5 (toS z) (.slice A7 (toS z).f3.length c7)).toArray 52))
          have HK8 := Aside0.mk (blk_alloc (keep_blk hp7.2.2 (fun e => HG.out.2.2.2.2.2.1 e.symm) (blk_drew BK.out)) (.cells (cell5 (toS y) (.slice A (toS y).f3.length c) ++ cell5 (toS z) (.slice A7 (toS z).f3.length c7)).toArray 52))
          refine se_call (vs := [.int .u8 (op.toNat : Int), .slice (some ⟨W7.heap.size, 0, none⟩) 2 2]) rfl rfl Tryd.func44 (by kernel_rfl) rfl (by kernel_rfl) ?_
          refine (brk_made.calls 3 (op.toNat : Int) (fun j => W1.heap.size ≤ j ∧ j ≠ b5) (some ⟨W7.heap.size, 0, none⟩) 2 [toS y, toS z] _ _ _ _ _ _ HS.out (made_bin op y z)).mono ?_
          rintro e W9 ⟨v9, rfl, hv9, hb9⟩
          obtain ⟨A9, c9, rfl⟩ := Kd.V_slice hv9
          refine ⟨_, rfl, blk_below HB8.out hb9, ?_⟩
          have HV9 := Aside0.mk (Kd.V_mono (ok' := fun j => W1.heap.size ≤ j ∧ j ≠ b5) hv9 (fun j hj => hj.elim id (fun h => by
            have h1 := HG.out
            have h2 : (W7.alloc (.cells (cell5 (toS y) (.slice A (toS y).f3.length c) ++ cell5 (toS z) (.slice A7 (toS z).f3.length c7)).toArray 52)).heap.size ≤ j := h
            have h3 := (below_alloc (Below.refl W7.heap.size W7) (.cells (cell5 (toS y) (.slice A (toS y).f3.length c) ++ cell5 (toS z) (.slice A7 (toS z).f3.length c7)).toArray 52)).size
            have h4 := hp7.size
            have h5 : wr.heap.size ≤ W7.heap.size := h4
            constructor <;> omega)))
          have HP9 := Aside0.mk (HP8.out.below hb9)
          have HK9 := Aside0.mk (blk_below HK8.out hb9)
          obtain ⟨W10, hst, hB10, hg10⟩ := put_run (g := b5) (seg := cell5 (toS (.bin op y z)) (.slice A9 2 c9)) (blk_below HB8.out hb9) rfl rfl (cell5_one _ ⟨A9, 2, c9, rfl⟩)
          refine se_store rfl rfl rfl rfl hst trivial ?_
          have HP10 := Aside0.mk (HP9.out.grown hg10 (fun e => HG.out.2.2.2.2.1 (Option.some.inj e)) (fun j e => by cases e; exact HG.out.2.2.2.2.2.2.1) HW.out)
          have BK10 := Aside0.mk (blk_grown HK9.out hg10 (fun e => HG.out.2.2.2.1 (Option.some.inj e)))
          have B10 := Aside0.mk hB10
          have HV10 := Aside0.mk (Kd.V_grown HV9.out hg10 (fun j hj e => hj.2 (Option.some.inj e)))
          simp only [SeqE, puts, Act.put, List.setIfInBounds_toArray, List.set_cons_zero, List.set_cons_succ]
          clear hst hB10 hg10 HV9 HP9 HK9 HP8 HB8 HK8 HS hv9 hb9 hvl hvy hvz hv7 hp7 hb57 hb5r HPd HPR B5 BK HV HQ
          by_cases hk2 : k = 2
          · have d3 : ((k : Int) == 2) = true := beq_iff_eq.2 (by omega)
            have h2 := H2.out
            rw [if_pos hk2] at h2
            cases h2
            clear hk2 H2
            go_wp2_with (first
              | ((with_reducible refine gate_ (.load 52 (.tmp 5)) rfl ?_); refine load_event rfl rfl rfl B10.out Tryd.underlying52 rfl (by kernel_rfl) ?_)
              | ((with_reducible refine gate_ (.store 52 (.tmp 4) (.tmp 35)) rfl ?_); refine put_event (g := b4) (seg := cell5 (toS (.bin op y z)) (.slice A9 2 c9)) rfl rfl rfl rfl rfl BK10.out size52 rfl (cell5_one _ ⟨A9, 2, c9, rfl⟩) ?_; intro W11 hW11 hg11 hs11; replace hW11 := Aside0.mk hW11; replace hg11 := Aside0.mk hg11; replace hs11 := Aside0.mk hs11)
              | fail)
            have HK11 := kept_step (kept_refl W10 (fun j => j = b4)) hg11.out (fun p e => by cases e; exact .inl rfl)
            exact bodyPost_ret (results_cell_row rfl _ _ b4 52 (cell5 (toS (.bin op y z)) (.slice A9 2 c9)).toArray (0, 0) _ rfl hW11.out Tryd.underlying52 rfl (by kernel_rfl)) rfl ⟨_, rfl, ⟨_, rfl, Kd.V_mono (ok := fun j => W1.heap.size ≤ j ∧ j ≠ b5) (Kd.V_kept HV10.out HK11 (fun j hj he => by have := HG.out; omega)) (fun j hj => Nat.le_trans HG.out.2.1 hj.1)⟩, HP10.out.grown hg11.out (fun e => HG.out.2.2.2.2.2.1 (Option.some.inj e)) (fun j e => by cases e; exact HG.out.2.2.1) HW.out⟩
          · have d3 : ((k : Int) == 2) = false := beq_eq_false_iff_ne.2 (by omega)
            have h2 := H2.out
            rw [if_neg hk2] at h2
            have HL4 := Aside0.mk h2
            clear hk2 H2 h2
            go_wp2_with (first
              | (go_at_call 43; refine (brk_ranks.calls (k : Int) _ _ HRK.out).mono ?_; rintro e W11 ⟨rfl, hb11⟩; replace hb11 := Aside0.mk hb11)
              | (go_at_call 42; have HP11 := Aside0.mk (HP10.out.below hb11.out); refine (sign_calls g s3 (ranksF k) b3 w0 _ HP11.out.1 HP11.out.2.1).mono ?_; rintro e W12 ⟨rfl, hI12, hB12, hK12⟩; have HP12 := Aside0.mk (HP11.out.next ⟨hI12, hB12, hK12⟩); replace hK12 := Aside0.mk hK12; clear hI12 hB12)
              | fail)
            have BK12 := Aside0.mk (keep_blk hK12.out (fun e => HG.out.2.2.2.2.2.1 e.symm) (blk_below BK10.out hb11.out))
            have B12 := Aside0.mk (keep_blk hK12.out (fun e => HG.out.2.2.2.2.1 e.symm) (blk_below B10.out hb11.out))
            have HV12 := Aside0.mk (Kd.V_keep (Kd.V_below HV10.out hb11.out) hK12.out (fun j hj e => by have h1 := HG.out; have h2 := hj.1; omega))
            go_roundg fl
            case measure => have := HF.out; omega
            case rel => exact ⟨s3, b3, .bin op y z, A9, c9, rfl, HL3, HL4, ⟨by have := HF.out; omega⟩, BK12, B12, HV12, HP12⟩
theorem all_ok : ∀ f, UnOK f ∧ ∀ f' ≤ f, BinOK f'
  | 0 => by
    refine ⟨?_, fun f' hf => ?_⟩
    · intro g s b w0 w x s' b' h
      cases h
    · obtain rfl : f' = 0 := by omega
      intro k hk g s b w0 w x s' b' h
      cases h
  | f + 1 => by
    obtain ⟨h1, h2⟩ := all_ok f
    refine ⟨un_step f h1 (h2 f (Nat.le_refl _)), fun f' hf => ?_⟩
    rcases Nat.lt_or_ge f f' with h | h
    · obtain rfl : f' = f + 1 := by omega
      exact bin_step f h1 h2
    · exact h2 f' h
end Go.Proofs.YtmageoieajhhdaaDoor.Bk
