/- Cuts of a list of patches, and appends of them: their runs. -/
import Derived.Test.YtblalidpeccababSnapI
namespace Go.Proofs.Ytblalidpeccabab.Sn
open Go.Proofs.YtblalidpeccababW
open Go Go.RowKit Go.Lib Go.Proofs.YtblalidpeccababW.PrintWords Go.Proofs.YtblalidpeccababW.PrintLast Go.Proofs.YtblalidpeccababW.PrintMore Go.Proofs.Ytblalidpeccabab.PSnapDelta Go.Proofs.Ytblalidpeccabab.Bs Go.Proofs.Ytblalidpeccabab.RegionVal Go.Proofs.Ytblalidpeccabab.Open
set_option linter.unusedVariables false
set_option linter.unusedSimpArgs false

/-- append(v, ys...) to a row of one's own, of any kind -/
theorem app_rows {P : Program} {α : Type} (d : Kd α) {Rr : α → List Value → Prop} {w0 W : World} (base : Nat) (t e : TypeId) (z : Value) (bytes : Nat)
    (ht : P.underlying t = some (.slice e)) (hinfo : (P.info? e).map (fun i => (i.zero, i.size, i.bytes)) = some (some z, d.sz, bytes)) (hz : z.cells.size = d.sz) (hs0 : 0 < d.sz) (hb0 : 0 < bytes)
    (v : Value) (xs ys : List α) (A : Option Addr) (m c : Nat) (ok okp : Nat → Prop)
    (HO : d.R e W base ok v xs) (HR : ReadsRow Rr d.sz W A m ys) (hKM : ∀ x cs, Rr x cs → d.M W base okp x cs) (hokp : ∀ k, okp k → ok k ∧ some k ≠ v.ownBlock) (hfresh : ∀ k, W.heap.size ≤ k → ok k)
    (HB : Below base w0 W) (hbase : base ≤ W.heap.size) (hl : (xs.length + m) * bytes ≤ 140737488355328) :
    ∃ v1 w1, Sem.run P (builtin .append #[t, t] t #[false, false] #[v, .slice A m c]) W = .ok (.value v1) w1 ∧ d.R e w1 base ok v1 (xs ++ ys) ∧ Below base w0 w1 := by
  have h := Kd.R_append_rows_step (P := P) (o := { dst := some 0, op := .call { callee := .builtin .append, args := #[.tmp 0, .tmp 1], argTypes := #[t, t] }, type := t, pos := "", after := #[], guard := none }) (a := ⟨#[v, .slice A m c], []⟩) (ops := #[])
    (Kc := fun a' w' => ∃ v1, a'.tmps[0]? = some v1 ∧ d.R e w' base ok v1 (xs ++ ys) ∧ Below base w0 w') (Q := fun _ _ _ => False)
    d base (by rfl) (.tmp 0) (.tmp 1) t e z bytes rfl ht hinfo hz hs0 hb0 v xs ys A m c ok okp (by rfl) (by rfl) HO HR hKM hokp hfresh HB hbase hl (fun v1 w1 h1 h2 _ _ => ⟨v1, by simp [Act.put], h1, h2⟩)
  rw [if_pos (by rfl)] at h
  have hr : (execOp (Act.eval ⟨#[v, .slice A m c], []⟩) { dst := some 0, op := .call { callee := .builtin .append, args := #[.tmp 0, .tmp 1], argTypes := #[t, t] }, type := t, pos := "", after := #[], guard := none }).run P W = Sem.run P (builtin .append #[t, t] t #[false, false] #[v, .slice A m c]) W := by
    simp [execOp, resolve, invoke, Act.eval]
  unfold Oper.wp at h
  rw [hr] at h
  simp only [builtin, Sem.run_bind] at h ⊢
  generalize (Builtin.append_ #[t, t] t #[v, .slice A m c]).run P W = r at h ⊢
  rcases r with ⟨v1, w1⟩ | ⟨hh, w1⟩
  · simp only [Result.andThen_ok, Sem.run_pure] at h ⊢
    obtain ⟨v2, h1, h2, h3⟩ := h
    simp [Act.put] at h1
    subst h1
    exact ⟨v1, w1, rfl, h2, h3⟩
  · exfalso
    cases hh <;> exact h
theorem cut_h38 (A : Option Addr) (n c : Nat) (j : Int) (m : Nat) (hj : j = (m : Int)) (hm : m ≤ n) (hc : n ≤ c) (W : World) :
    Sem.run Try.prog (Instr.sliceAt 38 (.slice A n c) none (some (.int .i64 j)) none) W = .ok (.slice A m c) W := by
  subst hj
  have h1 : (m : Int) ≤ (c : Int) := by omega
  have h2 : (0 : Int) ≤ (m : Int) := by omega
  go_simp
theorem cut_l38 (A : Option Addr) (n c : Nat) (i : Int) (m : Nat) (hi : i = (m : Int)) (hm : m ≤ n) (hc : n ≤ c) (W : World) :
    Sem.run Try.prog (Instr.sliceAt 38 (.slice A n c) (some (.int .i64 i)) none none) W = .ok (.slice (if c = m then A else A.map (·.add (m * 2))) (n - m) (c - m)) W := by
  subst hi
  have h1 : (m : Int) ≤ (n : Int) := by omega
  have h2 : (0 : Int) ≤ (m : Int) := by omega
  go_simp
theorem lit_run38 (W : World) : Sem.run Try.prog (Instr.buildSlice 38 0 #[]) W = .ok (.slice (some ⟨W.heap.size, 0, none⟩) 0 0) (W.alloc (.cells #[] 60)) := by
  go_simp
theorem R_lit0 (W : World) (base : Nat) (hb : base ≤ W.heap.size) : Kd.R k60 60 (W.alloc (.cells #[] 60)) base (fun _ => True) (.slice (some ⟨W.heap.size, 0, none⟩) 0 0) [] :=
  ⟨fun _ _ => trivial, [], World.ownsRow_made W #[] 0 hb (by decide) rfl, ⟨rfl, fun i p h => by simp at h⟩⟩
/-- append of patches that are read -/
theorem app60 {w0 W : World} (v : Value) (xs ys : List S60) (A : Option Addr) (c : Nat) (HO : Kd.R k60 60 W w0.heap.size (fun _ => True) v xs) (HR : Kd.C k60 W A ys.length ys) (HB : Below w0.heap.size w0 W) (hl : (xs.length + ys.length) * 16 ≤ 140737488355328) :
    ∃ v1 w1, Sem.run Try.prog (builtin .append #[38, 38] 38 #[false, false] #[v, .slice A ys.length c]) W = .ok (.value v1) w1 ∧ Kd.R k60 60 w1 w0.heap.size (fun _ => True) v1 (xs ++ ys) ∧ Below w0.heap.size w0 w1 :=
  app_rows k60 w0.heap.size 38 60 (.agg #[(.int .i64 0), (.int .i64 0)]) 16 Try.underlying38 info60 rfl (by decide) (by omega) v xs ys A ys.length c (fun _ => True) (fun _ => False) HO HR
    (fun x cs h => by obtain rfl := k60_open h; exact k60_mkM _ _ _ x) (fun _ h => h.elim) (fun _ _ => trivial) HB HB.size hl
/-- append(append([]DPatch{}, d[:k]...), d[k+1:]...) -/
theorem without_run (w6 : World) (D1 : Option Addr) (d1 : Nat) (l : List S60) (k : Nat) (hk : k < l.length) (hdl : l.length ≤ 300) (hd1 : l.length ≤ d1) (HD6 : Kd.C k60 w6 D1 l.length l) :
    ∃ v1 x1 D3 d3 x2, Sem.run Try.prog (builtin .append #[38, 38] 38 #[false, false] #[.slice (some ⟨w6.drew.heap.size, 0, none⟩) 0 0, .slice D1 k d1]) (w6.drew.alloc (.cells #[] 60)) = .ok (.value v1) x1 ∧ Below w6.heap.size w6 x1 ∧
      Sem.run Try.prog (builtin .append #[38, 38] 38 #[false, false] #[v1, .slice (if d1 = k + 1 then D1 else D1.map (·.add ((k + 1) * 2))) (l.length - (k + 1)) (d1 - (k + 1))]) x1 = .ok (.value (.slice D3 (without l k).length d3)) x2 ∧ Below w6.heap.size w6 x2 ∧
      (without l k).length ≤ d3 ∧ Kd.C k60 x2 D3 (without l k).length (without l k) := by
  have hE : w6.heap.size ≤ w6.drew.heap.size := (below_drew1 (Below.refl w6.heap.size w6)).size
  have hLb : Below w6.heap.size w6 (w6.drew.alloc (.cells #[] 60)) := below_alloc (below_drew1 (Below.refl w6.heap.size w6)) _
  have e1 : (l.take k).length = k := List.length_take_of_le (Nat.le_of_lt hk)
  have e2 : (l.drop (k + 1)).length = l.length - (k + 1) := List.length_drop
  have hC1 : Kd.C k60 (w6.drew.alloc (.cells #[] 60)) D1 (l.take k).length (l.take k) := Kd.C_below (Kd.C_take HD6 (Nat.le_of_lt hk)) hLb
  obtain ⟨v1, x1, hx1, ho1, hB1⟩ := app60 (w0 := w6) _ [] (l.take k) D1 d1 (R_lit0 w6.drew w6.heap.size hE) hC1 hLb (by rw [e1]; show (0 + k) * 16 ≤ 140737488355328; omega)
  have hC2 : Kd.C k60 x1 (if d1 = k + 1 then D1 else D1.map (·.add ((k + 1) * 2))) (l.drop (k + 1)).length (l.drop (k + 1)) := Kd.C_below (Kd.C_drop HD6 hk hd1) hB1
  obtain ⟨v2, x2, hx2, ho2, hB2⟩ := app60 (w0 := w6) v1 (l.take k) (l.drop (k + 1)) _ (d1 - (k + 1)) ho1 hC2 hB1 (by rw [e1, e2]; omega)
  rw [e1] at hx1
  rw [e2] at hx2
  obtain ⟨D3, d3, rfl, hd3, hD3⟩ := Kd.R_reads ho2
  exact ⟨v1, x1, D3, d3, x2, hx1, hB1, hx2, hB2, hd3, hD3⟩
end Go.Proofs.Ytblalidpeccabab.Sn
