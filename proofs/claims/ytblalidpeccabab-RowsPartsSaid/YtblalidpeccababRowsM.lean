/- rows.places with a closure, rows.Of, rows.Between: their walks. -/
import Derived.Test.YtblalidpeccababRowsJ
import Derived.Lib.LazyBuf
namespace Go.Proofs.Ytblalidpeccabab.Rw
open Go Go.RowKit Go.Lib Go.Proofs.YtblalidpeccababW.PrintWords Go.Proofs.YtblalidpeccababW.PrintLast Go.Proofs.YtblalidpeccababW.PrintMore Go.Proofs.Ytblalidpeccabab.PRowsThree Go.Proofs.Ytblalidpeccabab.Bs Go.Proofs.Ytblalidpeccabab.RegionVal
set_option linter.unusedVariables false
set_option linter.unusedSimpArgs false

/-- a function value that answers p of xs, from the world w0 on -/
structure Asks {α : Type} (f : FuncId) (cap : Array Value) (w0 : World) (enc : α → Value) (xs : List α) (p : α → Bool) : Prop where
  eg : ∀ args w, (callFunc f args).run Try.prog w = .ok (.enter f args) w
  calls : ∀ x ∈ xs, ∀ w : World, Below w0.heap.size w0 w → Calls Try.prog f (#[enc x] ++ cap) w fun e w' => e = .returned (.bool (p x)) ∧ Below w.heap.size w w'
theorem own_keepR {w w1 : World} {B : Nat} {v : Value} {n : Nat} {xs : List Value} (h : w.ownsRow B 3 1 v n xs) (hb : Below w.heap.size w w1) : w1.ownsRow B 3 1 v n xs := by
  obtain ⟨h1, h2⟩ := h
  refine ⟨h1, ?_⟩
  rcases h2 with h2 | ⟨g, cap, cur, e1, e2, e3, e4⟩
  · exact .inl h2
  · exact .inr ⟨g, cap, cur, e1, e2, blk_below e3 hb, e4⟩
theorem own_lower {w : World} {base base' : Nat} {e : TypeId} {size : Nat} {v : Value} {n : Nat} {xs : List Value} (h : w.ownsRow base e size v n xs) (hb : base' ≤ base) : w.ownsRow base' e size v n xs := by
  obtain ⟨h1, h2⟩ := h
  refine ⟨h1, ?_⟩
  rcases h2 with h2 | ⟨g, cap, cur, e1, e2, e3⟩
  · exact .inl h2
  · exact .inr ⟨g, cap, cur, e1, Nat.le_trans hb e2, e3⟩
/-- the places of the first k of which it is said -/
def plc (p : S53 → Bool) (l : List S53) : Nat → List Int
  | 0 => []
  | k + 1 => if p (l.getD k z53) then plc p l k ++ [(k : Int)] else plc p l k
theorem plc_succ (p : S53 → Bool) (l : List S53) (k : Nat) : plc p l (k + 1) = if p (l.getD k z53) then plc p l k ++ [(k : Int)] else plc p l k := rfl
theorem plc_len (p : S53 → Bool) (l : List S53) : ∀ k, k ≤ l.length → (plc p l k).length = (l.take k).countP p
  | 0, _ => by simp [plc]
  | k + 1, h => by
    have hk : k < l.length := h
    have ih := plc_len p l k (by omega)
    have he : l.getD k z53 = l[k] := by simp [List.getD_eq_getElem?_getD, hk]
    rw [List.take_succ_eq_append_getElem hk, List.countP_append, ← ih, plc_succ, he]
    by_cases hp : p l[k] = true
    · rw [if_pos hp, List.length_append, List.countP_cons_of_pos hp, List.countP_nil]; rfl
    · rw [if_neg hp, List.countP_cons_of_neg hp, List.countP_nil]; rfl
theorem plc_le (p : S53 → Bool) (l : List S53) : ∀ k, (plc p l k).length ≤ k
  | 0 => Nat.le_refl _
  | k + 1 => by
    have ih := plc_le p l k
    rw [plc_succ]
    split
    · rw [List.length_append]; simp; omega
    · omega
/-- what places tells -/
def Placed (p : S53 → Bool) (l : List S53) (r : Int) (x : List Int) : Prop := (r = 2 ∧ x = [] ∧ 200 < l.length) ∨ (r = 0 ∧ l.length ≤ 200 ∧ x = plc p l l.length)
section
variable {P : Program} {ops : Array Oper} {rest : List Oper} {o : Oper} {a : Act} {Q : Exit → Act → World → Prop} {W W' : World} {t : TypeId} {x y : Operand} {vx vy v : Value}
/-- a load whose run is told, in a plain region -/
theorem wpl_load (hgd : o.guard = none) (ho : o.op = .load t x) (hx : a.eval x = vx) (hr : Sem.run P (Instr.loadAt t vx) W = .ok v W) (h : wpList P ops Q rest (a.put o.dst v) W) : wpList P ops Q (o :: rest) a W :=
  Kd.event_run hgd (by
    obtain ⟨d, op, ty, ps, af, g⟩ := o
    simp only at ho
    subst ho
    simp only [execOp, hx, Sem.run_bind]
    rw [hr]
    rfl) h
/-- a store whose run is told, in a plain region -/
theorem wpl_store (hgd : o.guard = none) (ho : o.op = .store t x y) (hN : o.dst = none) (hx : a.eval x = vx) (hy : a.eval y = vy) (hr : Sem.run P (Instr.storeAt t vx vy) W = .ok () W') (h : wpList P ops Q rest a W') : wpList P ops Q (o :: rest) a W := by
  have hrun : (execOp a.eval o).run P W = .ok .skip W' := by
    obtain ⟨d, op, ty, ps, af, g⟩ := o
    simp only at ho
    subst ho
    simp only [execOp, hx, hy, Sem.run_bind]
    rw [hr]
    rfl
  refine wpList_plain hgd fun K hK => ?_
  unfold Oper.wp
  rw [hrun]
  show K (a.put o.dst undef) W'
  rw [hN]
  exact hK _ _ h
end
/-- an event that is stored into a new block -/
theorem fresh_store {W : World} {g : Nat} {cs : Array Value} (hb : W.heap[g]? = some (.cells cs 53 (0, 0))) (hs : cs.size = 12) (x : S53) :
    ∃ W' cs', Sem.run Try.prog (Instr.storeAt 53 (.pointer (some ⟨g, 0, none⟩)) (v53 x)) W = .ok () W' ∧ W'.heap[g]? = some (.cells cs' 53 (0, 0)) ∧ cs'.toList = c53 x ∧ ∀ (B : Nat) (a : World), B ≤ g → Below B a W → Below B a W' := by
  have hrun := run_store_run (P := Try.prog) 53 (v53 x) (c53 x) (o := 0) hb rfl info53 (by rw [hs]; exact Nat.le_refl _) (by
    intro q hq
    simp only [c53, List.mem_cons, List.not_mem_nil, or_false] at hq
    rcases hq with rfl | rfl | rfl | rfl | rfl | rfl | rfl | rfl | rfl | rfl | rfl | rfl <;> rfl)
  obtain ⟨cs', h1, h2, h3⟩ := setCells_row (c53 x) 0 W cs hb (by rw [hs]; exact Nat.le_refl _)
  refine ⟨_, cs', hrun, h1, ?_, fun B a hB hba => below_setCells hB _ _ _ hba⟩
  rw [h3, List.take_zero, List.nil_append, List.drop_eq_nil_of_le (by rw [Array.length_toList, hs]; exact Nat.le_refl _), List.append_nil]
/-- an event that lies in a block of its own, read -/
theorem fresh_load {W : World} {g : Nat} {cs : Array Value} {x : S53} (hb : W.heap[g]? = some (.cells cs 53 (0, 0))) (hs : cs.toList = c53 x) : Sem.run Try.prog (Instr.loadAt 53 (.pointer (some ⟨g, 0, none⟩))) W = .ok (v53 x) W :=
  run_loadAt_mid W g 0 53 (c53 x) _ (fun j v hv => by
    rw [Nat.zero_add, blk_cell hb, ← hs] at *
    simpa using hv) Try.underlying53 rfl info53
def zc53 : Array Value := #[.int .i64 0, .int .i64 0, .int .i64 0, .int .i64 0, .int .i64 0, .int .i64 0, .int .i64 0, .int .i64 0, .int .i64 0, .int .i64 0, .int .i64 0, .int .i64 0]

set_option maxHeartbeats 8000000 in
set_option maxRecDepth 100000 in
theorem places_calls (w : World) (A : Option Addr) (c : Nat) (l : List S53) (f : FuncId) (cap : Array Value) (p : S53 → Bool) (hr : Kd.C k53 w A l.length l) (hc : l.length ≤ c) (hf : Asks f cap w v53 l p) :
    Calls Try.prog 52 #[.slice A l.length c, .func (.func f) #[] cap] w fun e w' => ∃ v r x, e = .returned (.tuple #[v, .int .i64 r]) ∧ w'.ownsRow w.heap.size 3 1 v x.length (nums .i64 x) ∧ Below w.heap.size w w' ∧ Placed p l r x := by
  have hn : l.length ≤ 9223372036854775807 := hr.2.1
  have HR := Aside0.mk hr
  have HF := Aside0.mk hf
  have eg := hf.eg
  clear hr hf
  by_cases hbig : 200 < l.length
  · have hb1 : (200 : Int) < (l.length : Int) := by omega
    have HM := Aside0.mk (show Placed p l 2 [] from .inl ⟨rfl, rfl, hbig⟩)
    go_enter Try.func52, Try.ntmps52
    go_wp2
    exact bodyPost_ret (v := .tuple #[.slice none 0 0, .int .i64 2]) (by simp [results, Try.f52, go_sem]) rfl ⟨_, _, _, rfl, World.ownsRow_nil _ _ _ _, Below.refl _ _, HM.out⟩
  · have hle : l.length ≤ 200 := by omega
    have hle2 : (l.length : Int) ≤ 200 := by omega
    go_enter Try.func52, Try.ntmps52
    go_wp2_with fail
    go_loopw [6, 14] (fun v i wr => ∃ k : Nat, k ≤ l.length ∧ i = .int .i64 (k : Int) ∧ Aside0 (wr.ownsRow w.heap.size 3 1 v (plc p l k).length (nums .i64 (plc p l k))) ∧ Aside0 (Below w.heap.size w wr)) (fun _ i _ => l.length - (intOf i).toNat)
    case atStart => exact ⟨0, Nat.zero_le _, rfl, ⟨World.ownsRow_nil _ _ _ _⟩, ⟨Below.refl _ _⟩⟩
    case round =>
      obtain ⟨k, hk, rfl, HO, HB⟩ := hrel
      by_cases hlt : k < l.length
      · have hk1 : (k : Int) < (l.length : Int) := by omega
        obtain ⟨ad, rfl⟩ := C_addr HR.out (show 0 < l.length by omega)
        obtain ⟨x, hx⟩ : ∃ x, x = l[k] := ⟨_, rfl⟩
        have HL := Aside0.mk (show ∀ w', Below w.heap.size w w' → Sem.run Try.prog (Instr.loadAt 53 (.pointer (some (ad.add (k * 12))))) w' = .ok (v53 x) w' from fun w' hb => by rw [hx]; exact C_load (Kd.C_below HR.out hb) k hlt)
        have HC := Aside0.mk (show ∀ W, Below w.heap.size w W → _ from HF.out.calls x (by rw [hx]; exact List.getElem_mem _))
        have HPL := Aside0.mk (show plc p l (k + 1) = if p x then plc p l k ++ [(k : Int)] else plc p l k by
          rw [hx, ← show l.getD k z53 = l[k] by simp [List.getD_eq_getElem?_getD, hlt]]; rfl)
        have HPLE := Aside0.mk (plc_le p l k)
        clear hx
        have HB0 := HB
        go_wp2_with (first
          | ((with_reducible refine gate_dst (N := 18) rfl ?_); refine wpl_load (v := v53 x) rfl rfl rfl (HL.out _ HB0.out) ?_)
          | ((with_reducible refine gate_dst (N := 8) rfl ?_); refine box_event ?hg (N := 8) ?hd (cs := zc53) (t := 53) ?hr ?_; (case hd => rfl); (case hg => rfl); (case hr => go_simp; rfl); intro g hg w1 hbox hb; have HGB := Aside0.mk (show w.heap.size ≤ g by rw [hg]; exact HB0.out.size); have HBX := Aside0.mk hbox; have HB1 := Aside0.mk (below_then HB0.out HB0.out.size hb); have HO1 := Aside0.mk (own_keepR HO.out hb); have HGO := Aside0.mk (show wr.heap.size ≤ g by rw [hg]; exact Nat.le_refl _); have HBW := Aside0.mk hb; clear hbox hb hg)
          | ((with_reducible refine gate_store (t := 53) (p := 8) rfl ?_); obtain ⟨w2, cs2, hrun, hk2, hc2, hbel⟩ := fresh_store HBX.out rfl x; refine wpl_store rfl rfl rfl rfl rfl hrun ?_; have HB2 := Aside0.mk (hbel w.heap.size w HGB.out HB1.out); have HO2 := Aside0.mk (own_keepR HO.out (hbel wr.heap.size wr HGO.out HBW.out)); have HL2 := Aside0.mk (fresh_load hk2 hc2); clear hrun hk2 hc2 hbel)
          | ((with_reducible refine gate_dst (N := 20) rfl ?_); refine wpl_load (v := v53 x) rfl rfl rfl HL2.out ?_)
          | fail)
        refine (HC.out w2 HB2.out).mono ?_
        rintro e w3 ⟨rfl, hb⟩
        have HB3 := Aside0.mk (below_then HB2.out HB2.out.size hb)
        have HO3 := Aside0.mk (own_keepR HO2.out hb)
        clear hb
        cases hp : p x with
        | true =>
          have HX := Aside0.mk (show plc p l (k + 1) = plc p l k ++ [(k : Int)] by rw [HPL.out, if_pos hp])
          clear hp HPL
          obtain ⟨L, hL⟩ : ∃ L, L = plc p l k := ⟨_, rfl⟩
          rw [← hL] at HO3 HX HPLE
          clear hL
          go_wp2_with (at_builtin; refine print_append_row (w0 := w) w.heap.size rfl _ _ 31 3 .i64 8 rfl Try.underlying31 infoInt (by decide) _ L [(k : Int)] _ 1 1 rfl rfl (own_keepR HO3.out (below_alloc (Below.refl _ _) _)) (reads_lit _ [(k : Int)] (by simp) _) (below_alloc HB3.out _) (below_alloc HB3.out _).size (by have := HPLE.out; show (L.length + 1) * 8 ≤ _; omega) ?_; intro v1 w4 hown hB hg hat; have HO4 := Aside0.mk hown; have HB4 := Aside0.mk hB; clear hown hB hg hat)
          go_roundw
          case rel => exact ⟨k + 1, by omega, by go_num, ⟨by rw [HX.out]; exact HO4.out⟩, HB4⟩
          case measure => simp [intOf]; omega
        | false =>
          have HX := Aside0.mk (show plc p l (k + 1) = plc p l k by rw [HPL.out, if_neg (by rw [hp]; decide)])
          clear hp HPL
          go_wp2
          go_roundw
          case rel => exact ⟨k + 1, by omega, by go_num, ⟨by rw [HX.out]; exact HO3.out⟩, HB3⟩
          case measure => simp [intOf]; omega
      · have hk' : k = l.length := by omega
        have HM := Aside0.mk (show Placed p l 0 (plc p l k) from .inr ⟨rfl, hle, by rw [hk']⟩)
        have hk1 : l.length ≤ k := by omega
        clear hk'
        go_wp2
        exact bodyPost_ret (v := .tuple #[u6, .int .i64 0]) (by simp [results, Try.f52, go_sem]) rfl ⟨_, _, _, rfl, HO.out, HB.out, HM.out⟩

/-- rows.Of's closure -/
theorem of1_asks (w : World) (g : Nat) (k : Int) (l : List S53) (hb : w.heap[g]? = some (.cells #[.int .i64 k] 3 (0, 0))) : Asks 66 #[.pointer (some ⟨g, 0, none⟩)] w v53 l (fun x => decide (x.f0 = k)) := by
  refine ⟨fun args w => enters_ Try.func66 (by kernel_rfl) rfl args w, fun x hx W hW => ?_⟩
  have h0 := blk_cell (blk_below hb hW) 0
  have hlt := World.block_lt_of_cell? W _ (h0.trans rfl)
  simp only [List.getElem?_toArray, List.getElem?_cons_zero] at h0
  show Calls Try.prog 66 #[.agg #[.int .i64 x.f0, .int .i64 x.f1, .int .i64 x.f2, .int .i64 x.f3, .int .i64 x.f4, .int .i64 x.f5, .int .i64 x.f6, .int .i64 x.f7, .int .i64 x.f8.f0, .int .i64 x.f8.f1, .int .i64 x.f9.f0, .int .i64 x.f9.f1], .pointer (some ⟨g, 0, none⟩)] W _
  go_enter Try.func66, Try.ntmps66
  go_wp2
  go_ret
  exact ⟨by first | rfl | simp, below_alloc (Below.refl _ _) _⟩
/-- rows.Between's closure -/
theorem between1_asks (w : World) (g g2 : Nat) (a b : Int) (l : List S53) (hb : w.heap[g]? = some (.cells #[.int .i64 a] 3 (0, 0))) (hb2 : w.heap[g2]? = some (.cells #[.int .i64 b] 3 (0, 0))) : Asks 53 #[.pointer (some ⟨g, 0, none⟩), .pointer (some ⟨g2, 0, none⟩)] w v53 l (fun x => decide (a ≤ x.f1) && decide (x.f1 < b)) := by
  refine ⟨fun args w => enters_ Try.func53 (by kernel_rfl) rfl args w, fun x hx W hW => ?_⟩
  have h0 := blk_cell (blk_below hb hW) 0
  have h2 := blk_cell (blk_below hb2 hW) 0
  have hlt := World.block_lt_of_cell? W _ (h0.trans rfl)
  have hlt2 := World.block_lt_of_cell? W _ (h2.trans rfl)
  simp only [List.getElem?_toArray, List.getElem?_cons_zero] at h0 h2
  show Calls Try.prog 53 #[.agg #[.int .i64 x.f0, .int .i64 x.f1, .int .i64 x.f2, .int .i64 x.f3, .int .i64 x.f4, .int .i64 x.f5, .int .i64 x.f6, .int .i64 x.f7, .int .i64 x.f8.f0, .int .i64 x.f8.f1, .int .i64 x.f9.f0, .int .i64 x.f9.f1], .pointer (some ⟨g, 0, none⟩), .pointer (some ⟨g2, 0, none⟩)] W _
  by_cases hx0 : a ≤ x.f1
  · go_enter Try.func53, Try.ntmps53
    go_wp2
    go_ret
    exact ⟨by simp [hx0], below_alloc (Below.refl _ _) _⟩
  · go_enter Try.func53, Try.ntmps53
    go_wp2
    go_ret
    exact ⟨by simp; intro h; omega, below_alloc (Below.refl _ _) _⟩

set_option maxHeartbeats 8000000 in
set_option maxRecDepth 100000 in
theorem of_calls (w : World) (A : Option Addr) (c : Nat) (l : List S53) (k : Int) (hr : Kd.C k53 w A l.length l) (hc : l.length ≤ c) :
    Calls Try.prog 50 #[.slice A l.length c, .int .i64 k] w fun e w' => ∃ v r x, e = .returned (.tuple #[v, .int .i64 r]) ∧ w'.ownsRow w.heap.size 3 1 v x.length (nums .i64 x) ∧ Below w.heap.size w w' ∧ Placed (fun x => decide (x.f0 = k)) l r x := by
  have hba := below_alloc (Below.refl w.heap.size w) (.cells #[.int .i64 k] 3)
  have HP := Aside0.mk (places_calls (w.alloc (.cells #[.int .i64 k] 3)) A c l 66 #[.pointer (some ⟨w.heap.size, 0, none⟩)] _ (Kd.C_below hr hba) hc (of1_asks _ w.heap.size k l (heap_alloc_new w _)))
  have HBA := Aside0.mk hba
  clear hr hba
  go_enter Try.func50, Try.ntmps50
  go_wp2_with fail
  refine HP.out.mono ?_
  rintro e w2 ⟨v, r, x, rfl, h1, h2, h3⟩
  have H := Aside0.mk (show w2.ownsRow w.heap.size 3 1 v x.length (nums .i64 x) ∧ Below w.heap.size w w2 ∧ Placed (fun x => decide (x.f0 = k)) l r x from ⟨own_lower h1 HBA.out.size, below_then HBA.out HBA.out.size h2, h3⟩)
  clear h1 h2 h3 HP HBA
  go_wp2
  exact bodyPost_ret (v := .tuple #[v, .int .i64 r]) (by simp [results, Try.f50, go_sem]) rfl ⟨_, _, _, rfl, H.out.1, H.out.2.1, H.out.2.2⟩
set_option maxHeartbeats 8000000 in
set_option maxRecDepth 100000 in
theorem between_calls (w : World) (A : Option Addr) (c : Nat) (l : List S53) (a b : Int) (hr : Kd.C k53 w A l.length l) (hc : l.length ≤ c) :
    Calls Try.prog 19 #[.slice A l.length c, .int .i64 a, .int .i64 b] w fun e w' => ∃ v r x, e = .returned (.tuple #[v, .int .i64 r]) ∧ w'.ownsRow w.heap.size 3 1 v x.length (nums .i64 x) ∧ Below w.heap.size w w' ∧ Placed (fun x => decide (a ≤ x.f1) && decide (x.f1 < b)) l r x := by
  have hba0 := below_alloc (Below.refl w.heap.size w) (.cells #[.int .i64 a] 3)
  have hba := below_alloc hba0 (.cells #[.int .i64 b] 3)
  have hbs := below_alloc (Below.refl (w.alloc (.cells #[.int .i64 a] 3)).heap.size (w.alloc (.cells #[.int .i64 a] 3))) (.cells #[.int .i64 b] 3)
  have hsz : (w.alloc (.cells #[.int .i64 a] 3)).heap.size = w.heap.size + 1 := Array.size_push _
  have hp := (places_calls ((w.alloc (.cells #[.int .i64 a] 3)).alloc (.cells #[.int .i64 b] 3)) A c l 53 #[.pointer (some ⟨w.heap.size, 0, none⟩), .pointer (some ⟨(w.alloc (.cells #[.int .i64 a] 3)).heap.size, 0, none⟩)] _ (Kd.C_below hr hba) hc (between1_asks _ w.heap.size (w.alloc (.cells #[.int .i64 a] 3)).heap.size a b l (blk_below (heap_alloc_new w _) hbs) (heap_alloc_new (w.alloc (.cells #[.int .i64 a] 3)) _)))
  rw [hsz] at hp
  have HP := Aside0.mk hp
  have HBA := Aside0.mk hba
  clear hr hba hba0 hbs hp hsz
  go_enter Try.func19, Try.ntmps19
  go_wp2_with fail
  refine HP.out.mono ?_
  rintro e w2 ⟨v, r, x, rfl, h1, h2, h3⟩
  have H := Aside0.mk (show w2.ownsRow w.heap.size 3 1 v x.length (nums .i64 x) ∧ Below w.heap.size w w2 ∧ Placed (fun x => decide (a ≤ x.f1) && decide (x.f1 < b)) l r x from ⟨own_lower h1 HBA.out.size, below_then HBA.out HBA.out.size h2, h3⟩)
  clear h1 h2 h3 HP HBA
  go_wp2
  exact bodyPost_ret (v := .tuple #[v, .int .i64 r]) (by simp [results, Try.f19, go_sem]) rfl ⟨_, _, _, rfl, H.out.1, H.out.2.1, H.out.2.2⟩
end Go.Proofs.Ytblalidpeccabab.Rw
