/- lockup.Order: its walk. -/
import Derived.Test.YtlgkcjkicankmaaLockE
namespace Go.Proofs.Ytlgkcjkicankmaa.Lk
open Go Go.RowKit Go.Maps Go.Proofs.YtlgkcjkicankmaaW Go.Proofs.YtlgkcjkicankmaaW.PrintWords Go.Proofs.YtlgkcjkicankmaaW.PrintLast Go.Proofs.YtlgkcjkicankmaaW.PrintMore Go.Proofs.Ytlgkcjkicankmaa.PLockupEither Go.Proofs.Ytlgkcjkicankmaa.Bs Go.Proofs.Ytlgkcjkicankmaa.RegionVal
open Go.Lib hiding intOf
set_option linter.unusedVariables false
set_option linter.unusedSimpArgs false

theorem ev_cell {w : World} {g : Nat} {x : Ev} (h : w.heap[g]? = some (.cells (c41 x).toArray 41 (0, 0))) : w.cell? ⟨g, 0, none⟩ = some (.int .i64 x.k) ∧ w.cell? ⟨g, 2, none⟩ = some (.int .i64 x.t) ∧ w.cell? ⟨g, 6, none⟩ = some (.int .i64 x.a) :=
  ⟨by rw [blk_cell h]; rfl, by rw [blk_cell h]; rfl, by rw [blk_cell h]; rfl⟩
/-- the pairs that one event adds, so far -/
def prs (own : List Int) (a : Int) (j : Nat) : List S32 := ((own.take j).filter (fun n => decide (n ≠ a))).map (fun n => ⟨n, a⟩)
theorem prs_step {own : List Int} {j : Nat} (a : Int) (hj : j < own.length) : prs own a (j + 1) = prs own a j ++ (if own[j] = a then [] else [⟨own[j], a⟩]) := by
  unfold prs
  rw [List.take_succ_eq_append_getElem hj, List.filter_append, List.map_append]
  by_cases h : own[j] = a
  · rw [if_pos h]; simp [h]
  · rw [if_neg h]; simp [h]
theorem prs_len (own : List Int) (a : Int) (j : Nat) : (prs own a j).length ≤ own.length := by
  unfold prs
  rw [List.length_map]
  exact Nat.le_trans (List.length_filter_le _ _) (by rw [List.length_take]; omega)
/-- without what stands twice, one behind the other -/
def dd2 : S32 → List S32 → List S32
  | _, [] => []
  | p, y :: l => if p.f0 = y.f0 ∧ p.f1 = y.f1 then dd2 y l else y :: dd2 y l
def dd : List S32 → List S32
  | [] => []
  | x :: l => x :: dd2 x l
def EvAt (g : Nat) (x : Ev) (w : World) : Prop := w.heap[g]? = some (.cells (c41 x).toArray 41 (0, 0))
theorem EvAt.below {g : Nat} {x : Ev} {w w' : World} (h : EvAt g x w) (hb : Below w.heap.size w w') : EvAt g x w' := blk_below h hb
theorem EvAt.grown {g b : Nat} {x : Ev} {w w' : World} (h : EvAt g x w) (hg : w.grownBy w' (some b)) (hne : g ≠ b) : EvAt g x w' := blk_grown h hg hne
theorem EvAt.lt {g : Nat} {x : Ev} {w : World} (h : EvAt g x w) : g < w.heap.size := by
  rcases Nat.lt_or_ge g w.heap.size with h1 | h1
  · exact h1
  · unfold EvAt at h
    rw [Array.getElem?_eq_none h1] at h
    cases h
theorem EvAt.grownO {g : Nat} {x : Ev} {w w' : World} {r : Option Nat} (h : EvAt g x w) (hg : w.grownBy w' r) (hne : r ≠ some g) : EvAt g x w' :=
  (hg.block g h.lt (fun e => hne e.symm)).trans h
theorem load2 {g : Nat} {x : Ev} {w : World} (h : EvAt g x w) : Sem.run Try.prog (Instr.loadAt 3 (.pointer (some ⟨g, 2, none⟩))) w = .ok (.int .i64 x.t) w := by
  have h1 := (ev_cell h).2.1
  go_simp
theorem load6 {g : Nat} {x : Ev} {w : World} (h : EvAt g x w) : Sem.run Try.prog (Instr.loadAt 3 (.pointer (some ⟨g, 6, none⟩))) w = .ok (.int .i64 x.a) w := by
  have h1 := (ev_cell h).2.2
  go_simp
theorem run_lit3 (w : World) (n : Int) : Sem.run Try.prog (Instr.buildSlice 24 1 #[(0, .int .i64 n)]) w = .ok (.slice (some ⟨w.heap.size, 0, none⟩) 1 1) (w.alloc (.cells #[.int .i64 n] 3)) := by
  go_simp
theorem own_blk {w : World} {base k : Nat} {e : TypeId} {size n : Nat} {v : Value} {xs : List Value} (h : w.ownsRow base e size v n xs) (hk : w.heap.size ≤ k) : v.ownBlock ≠ some k := fun e1 => by
  have := World.ownsRow.lt h k e1
  omega
theorem prs_all (own : List Int) (a : Int) : prs own a own.length = (own.filter (fun n => decide (n ≠ a))).map (fun n => ⟨n, a⟩) := by
  unfold prs
  rw [List.take_length]
theorem infoI24 : (Try.prog.info? 3).map (fun i => (i.zero, i.size, i.bytes)) = some (some (.int .i64 0), 1, 8) := by kernel_rfl

theorem own_app {w0 W : World} (base : Nat) (v : Value) (xs : List Int) (n : Int) (ad : Addr) (HO : W.ownsRow base 3 1 v xs.length (nums .i64 xs)) (HR : ReadsInt W .i64 (some ad) 1 [n]) (HB : Below base w0 W) (hbase : base ≤ W.heap.size) (hl : (xs.length + 1) * 8 ≤ 140737488355328) :
    ∃ v1 x1, Sem.run Try.prog (builtin .append #[24, 24] 24 #[false, false] #[v, .slice (some ad) 1 1]) W = .ok (.value v1) x1 ∧ x1.ownsRow base 3 1 v1 (xs ++ [n]).length (nums .i64 (xs ++ [n])) ∧ Below base w0 x1 ∧ W.grownBy x1 v.ownBlock ∧ (v1.ownBlock = v.ownBlock ∨ ∃ b, v1.ownBlock = some b ∧ W.heap.size ≤ b) := by
  obtain ⟨v1, x1, hrun, hR1, hb1, hg1, hat⟩ := app_rows (P := Try.prog) kI (Rr := kI.K W) (w0 := w0) base 24 3 (.int .i64 0) 8 Try.underlying24 infoI24 rfl (by decide) (by omega)
    v xs [n] (some ad) 1 1 (fun _ => True) (fun _ => False) (R_int HO) (C_int HR) (fun _ _ hp => hp) (fun _ hk => hk.elim) (fun _ _ => trivial) HB hbase hl
  exact ⟨v1, x1, hrun, Kd.own_of_R (enc := Value.int .i64) hR1, hb1, hg1, hat⟩
theorem GR.mapGrown {w w1 : World} {b bo : Nat} {m : List (Int × Value)} {g : Int → List Int} {vo : Value} {out : List S32} {x : Int} (h : GR w b bo m g vo out) (hg : w.grownBy w1 (valAt m x).ownBlock) : Mp.Holds w1 b (Value.int .i64) id m :=
  h.map.kept (hg.block b h.map.lt (fun e => own_ne (h.row x) h.lt e.symm))
section
variable {P : Program} {L : List Oper} {S : World → Prop} {a0 : Act} {K : List (Nat × Value) → World → Prop} {env : List (Nat × Value)} {rest : List (Nat × Bool)} {i : Nat} {w : World} {d : Nat} {Ty : TypeId} {pos : String} {after : Array Edge} {g : Option (Nat × Bool)}
/-- a load whose run is told -/
theorem se_load {t : TypeId} {x : Operand} {vx v : Value} (ho : want.nthO L i = some ⟨some d, .load t x, Ty, pos, after, g⟩) (hg : want L a0 env g = some true) (hx : rdo a0 env x = some vx)
    (hr : ∀ w, S w → Sem.run P (Instr.loadAt t vx) w = .ok v w) (h : SeqE P L S a0 K rest ((d, v) :: env) w) : SeqE P L S a0 K ((i, false) :: rest) env w :=
  se_gen ho hg (fun w hw => by
    simp only [execOp, ev_of hx, Sem.run_bind]
    rw [hr w hw]
    rfl) h
end
theorem GR.rd {w : World} {b bo : Nat} {m : List (Int × Value)} {g : Int → List Int} {vo : Value} {out : List S32} (h : GR w b bo m g vo out) {x : Int} {A : Option Addr} {c : Nat} (hv : valAt m x = .slice A (g x).length c) : ReadsInt w .i64 A (g x).length (g x) := by
  obtain ⟨A', c', e, _, hr⟩ := own_rd (h.row x)
  rw [hv] at e
  injection e with e1 e2 e3
  rw [e1]
  exact hr
set_option maxHeartbeats 32000000 in
set_option maxRecDepth 100000 in
theorem order_calls (w : World) (A : Option Addr) (c : Nat) (l : List Ev) (ps : List S32) (hr : Kd.C k41 w A l.length l) (hc : l.length ≤ c) (hl : l.length ≤ 200) (hps : (evFold l (fun _ => []) []).2 = ps)
    (hfin : ∀ (W : World) (v : Value), Kd.R k32 32 W w.heap.size (fun _ => True) v ps → Calls Try.prog 25 #[v, .func (.func 26) #[] #[]] W fun e W' => e = .returned (.tuple #[]) ∧ ∃ ys, ys.Perm ps ∧ SrtP ys ∧ Kd.R k32 32 W' w.heap.size (fun _ => True) v ys ∧ W.grownBy W' v.ownBlock)
    (hcom : ∀ (W : World) (v : Value) (ys : List S32), ys.Perm ps → SrtP ys → Kd.R k32 32 W w.heap.size (fun _ => True) v ys → Calls Try.prog 27 #[v] W fun e W' => ∃ v1 zs, e = .returned v1 ∧ zs = dd ys ∧ Kd.R k32 32 W' w.heap.size (fun _ => True) v1 zs ∧ W.grownBy W' v.ownBlock) :
    Calls Try.prog 13 #[.slice A l.length c] w fun e w' => ∃ v ys, e = .returned (.tuple #[v, .int .i64 0]) ∧ ys.Perm ps ∧ SrtP ys ∧ Kd.R k32 32 w' w.heap.size (fun _ => True) v (dd ys) ∧ Below w.heap.size w w' := by
  have HR := Aside0.mk hr
  have hl1 : (l.length : Int) ≤ 200 := by omega
  have HFI := Aside0.mk hfin
  have HCO := Aside0.mk hcom
  obtain ⟨FN, hFN⟩ : ∃ FN, FN = evFold l (fun _ => []) [] := ⟨_, rfl⟩
  have HPS := Aside0.mk (show FN.2 = ps by rw [hFN]; exact hps)
  have HF0 := Aside0.mk (show evFold (l.drop 0) (fun _ => []) [] = FN from hFN.symm)
  clear hr hfin hcom hFN hps
  have hmm := @run_makeMap Try.prog
  go_enter Try.func13, Try.ntmps13
  go_upto_region 4 with (fail)
  clear hmm
  have HG0 := Aside0.mk (GR.new w (w.heap.size + 1) (by omega))
  have HB0 := Aside0.mk (below_alloc (Below.refl w.heap.size w) (.map #[] 0))
  have hsz : (w.alloc (.map #[] 0)).heap.size = w.heap.size + 1 := Array.size_push _
  obtain ⟨b, hb⟩ : ∃ b, b = w.heap.size := ⟨_, rfl⟩
  have HBE := Aside0.mk hb
  have HBO := Aside0.mk (show b < b + 1 ∧ w.heap.size ≤ b + 1 by rw [hb]; exact ⟨by omega, by omega⟩)
  have HSZ := Aside0.mk (show b + 1 ≤ (w.alloc (.map #[] 0)).heap.size by rw [hsz, hb]; exact Nat.le_refl _)
  rw [← hb] at HG0 ⊢
  generalize (w.alloc (.map #[] 0)) = W0 at HG0 HB0 HSZ ⊢
  clear hb hsz
  go_wp2_with fail
  go_loopw [5, 18] (fun v5 v18 wr => ∃ (i : Nat) (m : List (Int × Value)) (g : Int → List Int) (out : List S32), v18 = .int .i64 (i : Int) ∧ i ≤ l.length ∧ Aside0 (∀ t, (g t).length ≤ i) ∧ Aside0 (out.length ≤ 200 * i) ∧ Aside0 (evFold (l.drop i) g out = FN) ∧ Aside0 (GR wr b (b + 1) m g v5 out) ∧ Aside0 (Below w.heap.size w wr) ∧ Aside0 (b + 1 ≤ wr.heap.size)) (fun _ v18 _ => l.length - (intOf v18).toNat)
  case atStart => exact ⟨0, [], _, [], rfl, Nat.zero_le _, ⟨fun _ => by simp⟩, ⟨by simp⟩, HF0, HG0, HB0, HSZ⟩
  case round =>
    clear HF0 HG0 HB0 HSZ
    obtain ⟨i, m, g, out, rfl, hi, HGL, HOL, HF, HG, HB, HSZ⟩ := hrel
    by_cases hlt : i < l.length
    · have hlt1 : (i : Int) < (l.length : Int) := by omega
      obtain ⟨ad, hA⟩ : ∃ ad, A = some ad := by
        obtain ⟨ad, h, _⟩ := HR.out.2.2 (show 0 < l.length by omega)
        exact ⟨ad, h⟩
      subst hA
      obtain ⟨x, hx⟩ : ∃ x, x = l[i] := ⟨_, rfl⟩
      have H := HF.out
      rw [List.drop_eq_getElem_cons hlt, ← hx] at H
      simp only [evFold] at H
      have HL := Aside0.mk (show Sem.run Try.prog (Instr.loadAt 41 (.pointer (some (ad.add (i * 12))))) wr = .ok (v41 x) wr from by rw [hx]; exact C_load41 (Kd.C_below HR.out HB.out) i hlt)
      have HN := Aside0.mk H
      have HEL := Aside0.mk (evStep_len g out x i HGL.out)
      clear hx H HF
      go_upto_region 8 with (first
        | ((with_reducible refine gate_dst (N := 21) rfl ?_); refine wpl_load (v := v41 x) rfl rfl rfl HL.out ?_)
        | ((with_reducible refine gate_dst (N := 7) rfl ?_); refine box_event ?hg (N := 7) ?hd (cs := zc41) (t := 41) ?hr ?_; (case hd => rfl); (case hg => rfl); (case hr => go_simp; rfl); intro gx hgx w1 hbox hb; have HGX := Aside0.mk hgx; have HBX := Aside0.mk hbox; have HBW := Aside0.mk hb; clear hbox hb hgx)
        | ((with_reducible refine gate_store (t := 41) (p := 7) rfl ?_); obtain ⟨w2, hrun, hk2, hbel⟩ := fresh_store HBX.out rfl x; refine wpl_store rfl rfl rfl rfl rfl hrun ?_; have HK2 := Aside0.mk hk2; have HBW2 := Aside0.mk (hbel wr.heap.size wr (by rw [HGX.out]; exact Nat.le_refl _) HBW.out); clear hrun hk2 hbel)
        | fail)
      have HG2 := Aside0.mk (HG.out.below HBW2.out)
      have HB2 := Aside0.mk (below_then HB.out HB.out.size HBW2.out)
      have HSZ2 := Aside0.mk (Nat.le_trans HSZ.out HBW2.out.size)
      have HE2 := Aside0.mk (show EvAt gx x w2 from HK2.out)
      have HOG := Aside0.mk (show (valAt m x.t).ownBlock ≠ some gx ∧ u5.ownBlock ≠ some gx ∧ gx ≠ b from ⟨own_blk (k := gx) (HG.out.row x.t) (by rw [HGX.out]; exact Nat.le_refl _), (by obtain ⟨inner, ho⟩ := Kd.R_own HG.out.outr; exact own_blk (k := gx) ho (by rw [HGX.out]; exact Nat.le_refl _)), (by have h1 := HGX.out; have h2 := HSZ.out; omega)⟩)
      obtain ⟨k0, k2, k6⟩ := ev_cell HK2.out
      clear HG HB HSZ HBX HBW HK2 HBW2 HGX HL
      have HOL2 := Aside0.mk (show (g x.t).length ≤ 200 from Nat.le_trans (HGL.out x.t) (by omega))
      obtain ⟨A8, d8, hv8, hd8, hr8⟩ := own_rd (HG2.out.row x.t)
      have HV8 := Aside0.mk hv8
      obtain ⟨p, hp1, hp2, hp3, hp4⟩ := index_f (g x.t) x.a (by have := HOL2.out; omega)
      have HIX := Aside0.mk (slices_Index_int_int.calls 1000 A8 d8 (g x.t) x.a p w2 (C_int hr8) hd8 hp1)
      have HP := Aside0.mk (And.intro hp2 (And.intro hp3 hp4))
      clear hv8 hr8 hp1 hp2 hp3 hp4
      go_wp2_with (first
        | (at_lookup; refine Mp.wpList_look1 rfl _ _ 58 rfl keyI Try.underlying58 zero24 b m x.t rfl rfl HG2.out.map _ (orZ m x.t) ?_; rw [HV8.out])
        | fail)
      refine HIX.out.mono ?_
      rintro en w4 ⟨rfl, hd⟩
      have hb := hd.below
      have HG4 := Aside0.mk (HG2.out.below hb)
      have HB4 := Aside0.mk (below_then HB2.out HB2.out.size hb)
      have HSZ4 := Aside0.mk (Nat.le_trans HSZ2.out hb.size)
      have HE4 := Aside0.mk (HE2.out.below hb)
      clear hb hd k0 k2 k6 HIX HG2 HB2 HSZ2 HE2
      obtain ⟨k0, k2, k6⟩ := ev_cell HE4.out
      by_cases hk13 : x.k = 13
      · have d1 : (x.k == 13) = true := beq_iff_eq.2 hk13
        have HK13 := Aside0.mk hk13
        have HV5 := Aside0.mk HOG.out.2.1
        clear hk13
        go_wp2_with fail
        go_loopw [5, 36] (fun v5 v36 wq => ∃ (j : Nat), v36 = .int .i64 (j : Int) ∧ j ≤ (g x.t).length ∧ Aside0 (GR wq b (b + 1) m g v5 (out ++ prs (g x.t) x.a j)) ∧ Aside0 (v5.ownBlock ≠ some gx) ∧ Aside0 (EvAt gx x wq) ∧ Aside0 (Below w.heap.size w wq) ∧ Aside0 (b + 1 ≤ wq.heap.size)) (fun _ v36 _ => (g x.t).length - (intOf v36).toNat)
        case atStart => exact ⟨0, rfl, Nat.zero_le _, ⟨by have h := HG4.out; simpa [prs] using h⟩, HV5, HE4, HB4, HSZ4⟩
        case round =>
          clear HG4 HV5 HE4 HB4 HSZ4 k0 k2 k6
          obtain ⟨j, rfl, hj, HG, HV, HE, HB, HSZ⟩ := hrel
          obtain ⟨k0, k2, k6⟩ := ev_cell HE.out
          by_cases hlj : j < (g x.t).length
          · have hlj1 : (j : Int) < ((g x.t).length : Int) := by omega
            have hj200 : j < 200 := by have := HOL2.out; omega
            obtain ⟨ad8, hA8, hc8⟩ := (HG.out.rd HV8.out).2.2 (by omega)
            obtain ⟨n, hn⟩ : ∃ n, n = (g x.t)[j] := ⟨_, rfl⟩
            have kj : wr.cell? (ad8.add j) = some (.int .i64 n) := by
              have h := hc8 j hlj
              rw [hn]
              simpa [List.getD_eq_getElem?_getD, hlj] using h
            have hs := prs_step x.a hlj
            rw [← hn] at hs
            subst hA8
            clear hc8 hn
            by_cases hne : n = x.a
            · have HS := Aside0.mk (show prs (g x.t) x.a (j + 1) = prs (g x.t) x.a j by rw [hs, if_pos hne, List.append_nil])
              have d2 : (n == x.a) = true := beq_iff_eq.2 hne
              clear hs hne
              go_wp2
              go_roundw
              case rel => exact ⟨j + 1, by go_num, hlj, by rw [HS.out]; exact HG, HV, HE, HB, HSZ⟩
              case measure => simp [intOf]; omega
            · have HS := Aside0.mk (show prs (g x.t) x.a (j + 1) = prs (g x.t) x.a j ++ [⟨n, x.a⟩] by rw [hs, if_neg hne])
              have d2 : (n == x.a) = false := beq_eq_false_iff_ne.2 hne
              have HL15 := Aside0.mk (show ((out ++ prs (g x.t) x.a j).length + 1) * 16 ≤ 140737488355328 by
                have h1 := HOL.out
                have h2 := prs_len (g x.t) x.a j
                have h3 := HOL2.out
                rw [List.length_append]
                omega)
              clear hs hne
              go_wp2_with (first
                | (at_builtin; refine Kd.R_append_rows k32 (w0 := wr) (b + 1) rfl _ _ 28 32 (.agg #[.int .i64 0, .int .i64 0]) 16 rfl Try.underlying28 info32z rfl (by decide) (by omega) _ (out ++ prs (g x.t) x.a j) [⟨n, x.a⟩] _ 1 1 (fun _ => True) (fun _ => False) rfl rfl (Kd.R_alloc HG.out.outr _) (C_one32 (heap_alloc_new _ _)) (fun x cs h => by obtain rfl := k32_open h; exact k32_mkM _ _ _ x) (fun _ h => h.elim) (fun _ _ => trivial) (Below.alloc (Below.refl (b + 1) wr) HSZ.out _) (Nat.le_trans HSZ.out (below_alloc (Below.refl _ _) _).size) HL15.out ?_; intro v1 w6 hown hB hg hat; have HO6 := Aside0.mk hown; have HB6 := Aside0.mk hB; have HG6 := Aside0.mk hg; have HAT := Aside0.mk hat; clear hown hB hg hat)
                | fail)
              have HGa := Aside0.mk (HG.out.below (below_alloc (Below.refl wr.heap.size wr) (.cells #[Value.int .i64 n, Value.int .i64 x.a] 32)))
              have HG7 := Aside0.mk (show GR w6 b (b + 1) m g v1 (out ++ prs (g x.t) x.a (j + 1)) by rw [HS.out, ← List.append_assoc]; exact HGa.out.outer HG6.out HO6.out)
              have HE7 := Aside0.mk ((HE.out.below (below_alloc (Below.refl wr.heap.size wr) (.cells #[Value.int .i64 n, Value.int .i64 x.a] 32))).grownO HG6.out HV.out)
              have HV7 := Aside0.mk (show v1.ownBlock ≠ some gx from fun e => by
                rcases HAT.out with h | ⟨q, h, h2⟩
                · exact HV.out (h.symm.trans e)
                · rw [h] at e
                  injection e with e
                  have h3 := HE.out.lt
                  have h4 := (below_alloc (Below.refl wr.heap.size wr) (.cells #[Value.int .i64 n, Value.int .i64 x.a] 32)).size
                  omega)
              have HB7 := Aside0.mk (Below.trans HB.out (Below.mono HB6.out HBO.out.2))
              have HSZ7 := Aside0.mk (Nat.le_trans HSZ.out HB6.out.size)
              clear HGa HO6 HB6 HG6 HAT HG HE HV HB HSZ
              go_roundw
              case rel => exact ⟨j + 1, by go_num, hlj, HG7, HV7, HE7, HB7, HSZ7⟩
              case measure => simp [intOf]; omega
          · have hjl : j = (g x.t).length := by omega
            subst hjl
            have hlen : (g x.t).length ≤ 200 := HOL2.out
            have HGL5 := Aside0.mk (show GR wr b (b + 1) m g u5 (out ++ prs (g x.t) x.a (g x.t).length) from HG.out)
            clear HG
            by_cases hp : p < 0
            · have hnm : x.a ∉ g x.t := fun h => by have := HP.out.1.2 h; omega
              have HEV := Aside0.mk (show evStep g out x = (updL g x.t (g x.t ++ [x.a]), out ++ prs (g x.t) x.a (g x.t).length) by
                unfold evStep
                rw [if_pos HK13.out, if_neg hnm, prs_all])
              clear hnm
              go_wp2_with fail
              have HGa := Aside0.mk (HGL5.out.below (below_alloc (below_drew (Below.refl wr.heap.size wr)) (.cells #[Value.int .i64 x.a] 3)))
              have HEa := Aside0.mk (HE.out.below (below_alloc (below_drew (Below.refl wr.heap.size wr)) (.cells #[Value.int .i64 x.a] 3)))
              refine wp_eff (S := EvAt gx x) [(0, false), (1, false), (2, false), (3, false), (4, false), (5, false), (6, true), (7, true), (8, true)] (by kernel_rfl) (by kernel_rfl) (HE.out.below (below_drew (Below.refl _ _))) (fun _ _ d _ _ h => by cases d <;> exact h) ?_
              refine se_move rfl rfl rfl ?_
              refine se_un (v := .pointer (some ⟨gx, 2, none⟩)) rfl rfl rfl rfl rfl (fun w' hw => by go_simp) ?_
              refine se_load (v := .int .i64 x.t) rfl rfl rfl (fun w' hw => load2 hw) ?_
              refine se_move rfl rfl rfl ?_
              refine se_un (v := .pointer (some ⟨gx, 6, none⟩)) rfl rfl rfl rfl rfl (fun w' hw => by go_simp) ?_
              refine se_load (v := .int .i64 x.a) rfl rfl rfl (fun w' hw => load6 hw) ?_
              refine se_lit (vs := [(0, .int .i64 x.a)]) rfl rfl rfl (run_lit3 _ _) HEa.out ?_
              obtain ⟨v1, x1, hx1, ho1, hb1, hg1, hat1⟩ := own_app (w0 := wr) (b + 1) (valAt m x.t) (g x.t) x.a _ (HGa.out.row x.t) (reads_lit wr.drew [x.a] (by simp) 3) (Below.alloc (below_drew (Below.refl (b + 1) wr)) HSZ.out _) (Nat.le_trans HSZ.out (below_alloc (below_drew (Below.refl wr.heap.size wr)) (.cells #[Value.int .i64 x.a] 3)).size) (by omega)
              have he1 := HEa.out.grownO hg1 HOG.out.1
              rw [HV8.out] at hx1
              refine se_made rfl rfl rfl hx1 he1 ?_
              obtain ⟨x2, hu, hh2, hg2, hs2⟩ := Mp.update_run keyI Try.underlying58 (HGa.out.mapGrown hg1) x.t v1
              have he2 := he1.grown hg2 HOG.out.2.2
              refine se_mapUpd rfl rfl rfl rfl rfl hu he2 ?_
              have HG7 := Aside0.mk (HGa.out.turn hg1 ho1 hat1 hh2 hg2)
              have HB6 := Below.trans HB.out (Below.mono hb1 HBO.out.2)
              have HB7 := Aside0.mk (Below.grown HB6 hg2 HB6.size (fun k hk => by cases hk; rw [HBE.out]; exact Nat.le_refl _))
              have HSZ7 := Aside0.mk (Nat.le_trans (Nat.le_trans HSZ.out hb1.size) hg2.size)
              clear HGa HEa he1 he2 hx1 ho1 hb1 hg1 hat1 hu hh2 hg2 hs2 HB6 HB HSZ HGL5 k0 k2 k6 HE HV
              intro _
              simp only [puts, Act.put, List.setIfInBounds_toArray, List.set_cons_zero, List.set_cons_succ]
              have HLN := Aside0.mk HEL.out
              go_wp2
              go_roundw
              case rel => exact ⟨i + 1, _, _, _, by go_num, hlt, ⟨by have h := HLN.out.1; rw [HEV.out] at h; exact h⟩, ⟨by have h1 := HOL.out; have h2 := prs_len (g x.t) x.a (g x.t).length; rw [List.length_append]; omega⟩, ⟨by have h := HN.out; rw [HEV.out] at h; exact h⟩, HG7, HB7, HSZ7⟩
              case measure => simp [intOf]; omega
            · have hm : x.a ∈ g x.t := HP.out.1.1 (by omega)
              have HEV := Aside0.mk (show evStep g out x = (g, out ++ prs (g x.t) x.a (g x.t).length) by
                unfold evStep
                rw [if_pos HK13.out, if_pos hm, prs_all])
              have hp1 : 0 ≤ p := by omega
              clear hm
              go_wp2
              go_roundw
              case rel => exact ⟨i + 1, m, g, _, by go_num, hlt, ⟨fun t => by have := HGL.out t; omega⟩, ⟨by have h1 := HOL.out; have h2 := prs_len (g x.t) x.a (g x.t).length; rw [List.length_append]; omega⟩, ⟨by have h := HN.out; rw [HEV.out] at h; exact h⟩, HGL5, HB, HSZ⟩
              case measure => simp [intOf]; omega
      · by_cases hk14 : x.k = 14 ∧ 0 ≤ p
        · have HK13 := Aside0.mk hk13
          obtain ⟨hk14, hp0⟩ := hk14
          have d1 : (x.k == 13) = false := beq_eq_false_iff_ne.2 hk13
          have d2 : (x.k == 14) = true := beq_iff_eq.2 hk14
          obtain ⟨q, rfl, hq, hq1, hq2⟩ := HP.out.2.1 hp0
          have hm : x.a ∈ g x.t := HP.out.1.1 hp0
          have HEV := Aside0.mk (show evStep g out x = (updL g x.t ((g x.t).take q ++ (g x.t).drop (q + 1)), out) by
            unfold evStep
            rw [if_neg HK13.out, if_pos ⟨hk14, hm⟩, take_erase (g x.t) q x.a hq hq1 hq2])
          have hq200 : q < 200 := by have := HOL2.out; omega
          have hw1 : wrap64 ((q : Int) + 1) = ((q + 1 : Nat) : Int) := by unfold wrap64; omega
          clear hk13 hk14 hm hq1 hq2
          go_wp2_with fail
          have HGa := Aside0.mk (HG4.out.below (below_drew (Below.refl w4.heap.size w4)))
          have HEa := Aside0.mk (HE4.out.below (below_drew (Below.refl w4.heap.size w4)))
          refine wp_eff (S := EvAt gx x) [(0, false), (1, false), (2, false), (3, false), (4, false), (5, false), (6, false), (7, true), (8, true)] (by kernel_rfl) (by kernel_rfl) HEa.out (fun _ _ d _ _ h => by cases d <;> exact h) ?_
          refine se_move rfl rfl rfl ?_
          refine se_un (v := .pointer (some ⟨gx, 2, none⟩)) rfl rfl rfl rfl rfl (fun w' hw => by go_simp) ?_
          refine se_load (v := .int .i64 x.t) rfl rfl rfl (fun w' hw => load2 hw) ?_
          refine se_move rfl rfl rfl ?_
          refine se_move rfl rfl rfl ?_
          refine se_move rfl rfl rfl ?_
          refine se_bin (v := .int .i64 ((q + 1 : Nat) : Int)) rfl rfl rfl rfl (fun w' hw => by go_simp; exact wI_id (by unfold W64; omega)) ?_
          refine se_call (vs := [.slice A8 (g x.t).length d8, .int .i64 (q : Int), .int .i64 ((q + 1 : Nat) : Int)]) rfl rfl Try.func24 (by kernel_rfl) rfl (by kernel_rfl) ?_
          have hdc := delete_calls w4.drew (b + 1) (valAt m x.t) (g x.t) q (HGa.out.row x.t) hq
          rw [HV8.out] at hdc
          refine hdc.mono ?_
          rintro en x1 ⟨v1, rfl, ho1, hg1, hat1⟩
          rw [← HV8.out] at hg1 hat1
          have he1 := HEa.out.grownO hg1 HOG.out.1
          refine ⟨v1, rfl, he1, ?_⟩
          obtain ⟨x2, hu, hh2, hg2, hs2⟩ := Mp.update_run keyI Try.underlying58 (HGa.out.mapGrown hg1) x.t v1
          have he2 := he1.grown hg2 HOG.out.2.2
          refine se_mapUpd rfl rfl rfl rfl rfl hu he2 ?_
          have HG7 := Aside0.mk (HGa.out.turn hg1 ho1 (.inl hat1) hh2 hg2)
          have HB6 := Below.grown (below_drew HB4.out) hg1 (below_drew HB4.out).size (fun k hk => Nat.le_trans HBO.out.2 (own_base (HGa.out.row x.t) k hk))
          have HB7 := Aside0.mk (Below.grown HB6 hg2 HB6.size (fun k hk => by cases hk; rw [HBE.out]; exact Nat.le_refl _))
          have HSZ7 := Aside0.mk (Nat.le_trans (Nat.le_trans HSZ4.out hg1.size) hg2.size)
          clear HGa HEa he1 he2 hdc ho1 hg1 hat1 hu hh2 hg2 hs2 HB6 HB4 HSZ4 HG4 k0 k2 k6 HE4
          intro _
          simp only [puts, Act.put, List.setIfInBounds_toArray, List.set_cons_zero, List.set_cons_succ]
          go_wp2
          go_roundw
          case rel => exact ⟨i + 1, _, _, _, by go_num, hlt, ⟨by have h := HEL.out.1; rw [HEV.out] at h; exact h⟩, ⟨by have h1 := HOL.out; omega⟩, ⟨by have h := HN.out; rw [HEV.out] at h; exact h⟩, HG7, HB7, HSZ7⟩
          case measure => simp [intOf]; omega
        · have HEV := Aside0.mk (show evStep g out x = (g, out) by
            unfold evStep
            rw [if_neg hk13, if_neg (fun h => hk14 ⟨h.1, HP.out.1.2 h.2⟩)])
          have d1 : (x.k == 13) = false := beq_eq_false_iff_ne.2 hk13
          by_cases hk4 : x.k = 14
          · have d2 : (x.k == 14) = true := beq_iff_eq.2 hk4
            have hp : p < 0 := by
              rcases Int.lt_or_le p 0 with h | h
              · exact h
              · exact absurd ⟨hk4, h⟩ hk14
            clear hk13 hk14 hk4
            go_wp2
            go_roundw
            case rel => exact ⟨i + 1, m, g, _, by go_num, hlt, ⟨fun t => by have := HGL.out t; omega⟩, ⟨by have h1 := HOL.out; omega⟩, ⟨by have h := HN.out; rw [HEV.out] at h; exact h⟩, HG4, HB4, HSZ4⟩
            case measure => simp [intOf]; omega
          · have d2 : (x.k == 14) = false := beq_eq_false_iff_ne.2 hk4
            clear hk13 hk14 hk4
            go_wp2
            go_roundw
            case rel => exact ⟨i + 1, m, g, _, by go_num, hlt, ⟨fun t => by have := HGL.out t; omega⟩, ⟨by have h1 := HOL.out; omega⟩, ⟨by have h := HN.out; rw [HEV.out] at h; exact h⟩, HG4, HB4, HSZ4⟩
            case measure => simp [intOf]; omega
    · have HFE := Aside0.mk (show out = ps by
        have h := HF.out
        rw [List.drop_eq_nil_of_le (by omega)] at h
        simp only [evFold] at h
        have h2 := HPS.out
        rw [← h] at h2
        exact h2)
      have hle : l.length ≤ i := by omega
      clear HF
      have HPR := Aside0.mk (show Kd.R k32 32 wr w.heap.size (fun _ => True) u5 ps by have h := HG.out.outr; rw [HFE.out] at h; exact Kd.R_lower h HBO.out.2)
      clear HG
      go_wp2_with fail
      refine (HFI.out _ _ HPR.out).mono ?_
      rintro en w5 ⟨rfl, ys, hperm, hsrt, hR5, hg5⟩
      have HPM := Aside0.mk hperm
      have HSR := Aside0.mk hsrt
      have HR5 := Aside0.mk hR5
      have HB5 := Aside0.mk (Below.grown HB.out hg5 HB.out.size (fun k hk => by obtain ⟨inner, ho⟩ := Kd.R_own HPR.out; exact own_base ho k hk))
      clear hperm hsrt hR5 hg5 HB HSZ
      go_wp2_with fail
      refine (HCO.out _ _ ys HPM.out HSR.out HR5.out).mono ?_
      rintro en w6 ⟨v1, zs, rfl, rfl, hR6, hg6⟩
      have HR6 := Aside0.mk hR6
      have HB6 := Aside0.mk (Below.grown HB5.out hg6 HB5.out.size (fun k hk => by obtain ⟨inner, ho⟩ := Kd.R_own HR5.out; exact own_base ho k hk))
      clear hR6 hg6
      go_wp2
      exact bodyPost_ret (v := .tuple #[v1, .int .i64 0]) (by simp [results, Try.f13, go_sem]) rfl ⟨_, ys, rfl, HPM.out, HSR.out, HR6.out, HB6.out⟩
end Go.Proofs.Ytlgkcjkicankmaa.Lk
