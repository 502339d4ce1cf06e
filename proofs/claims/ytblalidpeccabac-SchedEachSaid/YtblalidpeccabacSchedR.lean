/- What the walks of count, Nth and Rank tell, in plain words. -/
import Derived.Test.YtblalidpeccabacSchedQ
namespace Go.Proofs.Ytblalidpeccabac.Sd
open Go Go.RowKit Go.Lib Go.Proofs.YtblalidpeccabacW.PrintWords Go.Proofs.YtblalidpeccabacW.PrintLast Go.Proofs.YtblalidpeccabacW.PrintMore Go.Proofs.Ytblalidpeccabac.PSchedBack
set_option linter.unusedVariables false
set_option linter.unusedSimpArgs false

/-- numbers that are no less than nothing -/
def zl (p : List Nat) : List Int := p.map (fun (n : Nat) => (n : Int))
theorem zl_length (p : List Nat) : (zl p).length = p.length := List.length_map ..
theorem zl_inj {p q : List Nat} (h : zl p = zl q) : p = q := by
  unfold zl at h
  exact (List.map_inj_right (fun a b h => by omega)).1 h
theorem zl_append (p q : List Nat) : zl (p ++ q) = zl p ++ zl q := List.map_append ..
theorem zl_getD (p : List Nat) (k : Nat) : (zl p).getD k 0 = ((p.getD k 0 : Nat) : Int) := by
  unfold zl
  simp only [List.getD_eq_getElem?_getD, List.getElem?_map]
  cases p[k]? <;> rfl
theorem rd_zl (p : List Nat) (k : Nat) : rd (zl p) (k : Int) = ((p.getD k 0 : Nat) : Int) := by
  unfold rd
  rw [Int.toNat_natCast, zl_getD]
theorem w64 {x : Int} (h : -9223372036854775808 ≤ x ∧ x ≤ 9223372036854775807) : wrap64 x = x := by unfold wrap64; omega
theorem fct12 {n : Nat} (h : n ≤ 12) : fct n ≤ 479001600 := Nat.le_trans (fct_le h) (by decide)
theorem bin_le (m D S k : Nat) (hD : m * D = fct S) : m * bin (S + k) k ≤ fct (S + k) := by
  rw [← bin_fct S k, ← hD]
  have e : bin (S + k) k * (fct k * (m * D)) = m * bin (S + k) k * (fct k * D) := by ac_rfl
  rw [e]
  refine Nat.le_mul_of_pos_right _ (Nat.mul_pos (fct_pos k) ?_)
  rcases Nat.eq_zero_or_pos D with h | h
  · rw [h] at hD
    have := fct_pos S
    omega
  · exact h
theorem div_step (x s k V : Nat) (hk : 0 < k) (hk2 : k ≤ 12) (hV : V ≤ 479001600) (e : x * s = k * V) : wrap64 (Int.tdiv (wrap64 ((x : Int) * (s : Int))) (k : Int)) = (V : Int) := by
  have hb : k * V ≤ 12 * 479001600 := Nat.mul_le_mul hk2 hV
  rw [← Int.natCast_mul, e]
  rw [w64 (x := ((k * V : Nat) : Int)) (by omega), Int.natCast_mul, Int.mul_tdiv_cancel_left _ (by omega)]
  exact w64 (by omega)
theorem bin_step (m S k : Nat) : m * bin (S + k) k * (S + (k + 1)) = (k + 1) * (m * bin (S + (k + 1)) (k + 1)) := by
  have e1 := bin_abs (S + k) k
  have e2 : (k + 1) * (m * bin (S + (k + 1)) (k + 1)) = m * ((k + 1) * bin (S + k + 1) (k + 1)) := by
    show (k + 1) * (m * bin (S + k + 1) (k + 1)) = _
    ac_rfl
  rw [e2, e1]
  show _ * (S + k + 1) = _
  ac_rfl
theorem wrap_succ (n : Nat) (h : n ≤ 100000) : wrap64 ((n : Int) + 1) = ((n + 1 : Nat) : Int) := by rw [w64 (by omega)]; omega
theorem l1_more (g x s n k V : Nat) (zs : List Int) (len i : Int) (hk : k + 1 ≤ n) (hk2 : k + 1 ≤ 12) (hs : s ≤ 100) (hV : V ≤ 479001600) (e : x * (s + 1) = (k + 1) * V) :
    sched_count.l1 (g + 1) (x : Int) (s : Int) (n : Int) ((k + 1 : Nat) : Int) zs len i = sched_count.l1 g (V : Int) ((s + 1 : Nat) : Int) (n : Int) ((k + 1 + 1 : Nat) : Int) zs len i := by
  have h1 := div_step x (s + 1) (k + 1) V (by omega) hk2 hV e
  have h2 := wrap_succ s (by omega)
  have h3 := wrap_succ (k + 1) (by omega)
  rw [show sched_count.l1 (g + 1) (x : Int) (s : Int) (n : Int) ((k + 1 : Nat) : Int) zs len i = (if ((k + 1 : Nat) : Int) ≤ (n : Int) then (if ((k + 1 : Nat) : Int) = 0 then (none) else (sched_count.l1 g (wrap64 (Int.tdiv (wrap64 ((x : Int) * (wrap64 ((s : Int) + 1)))) ((k + 1 : Nat) : Int))) (wrap64 ((s : Int) + 1)) (n : Int) (wrap64 (((k + 1 : Nat) : Int) + 1)) zs len i)) else (sched_count.l0 g (x : Int) (s : Int) zs len (wrap64 (i + 1)))) from by rw [sched_count.l1]]
  rw [if_pos (by omega), if_neg (by omega), h2, h3, h1]
theorem l1_end (g x s n k : Nat) (zs : List Int) (len i : Int) (hk : n < k) :
    sched_count.l1 (g + 1) (x : Int) (s : Int) (n : Int) (k : Int) zs len i = sched_count.l0 g (x : Int) (s : Int) zs len (wrap64 (i + 1)) := by
  rw [sched_count.l1, if_neg (by omega)]
theorem l1_eq (m n S D : Nat) (hD : m * D = fct S) (hS : S + n ≤ 12) (zs : List Int) (len i : Int) : ∀ (j k f : Nat), k + j = n →
    sched_count.l1 (f + j + 1) ((m * bin (S + k) k : Nat) : Int) ((S + k : Nat) : Int) (n : Int) ((k + 1 : Nat) : Int) zs len i = sched_count.l0 f ((m * bin (S + n) n : Nat) : Int) ((S + n : Nat) : Int) zs len (wrap64 (i + 1))
  | 0, k, f, hk => by
    obtain rfl : k = n := by omega
    exact l1_end f _ _ _ _ zs len i (by omega)
  | j + 1, k, f, hk => by
    have h1 := Nat.le_trans (bin_le m D S (k + 1) hD) (fct12 (show S + (k + 1) ≤ 12 by omega))
    rw [show f + (j + 1) + 1 = (f + j + 1) + 1 by omega, l1_more (f + j + 1) _ (S + k) n k _ zs len i (by omega) (by omega) (by omega) h1 (bin_step m S k)]
    exact l1_eq m n S D hD hS zs len i j (k + 1) f (by omega)
theorem l0_eq : ∀ (rest pre : List Nat) (m S D f : Nat), m * D = fct S → S + rest.sum ≤ 12 → pre.length + rest.length ≤ 1000 →
    sched_count.l0 (f + rest.sum + 2 * rest.length + 1) (m : Int) (S : Int) (zl (pre ++ rest)) ((zl (pre ++ rest)).length : Int) (pre.length : Int) = some ((m * cnt S rest : Nat) : Int)
  | [], pre, m, S, D, f, hD, hS, hl => by
    show sched_count.l0 (f + 1) _ _ _ _ _ = _
    unfold sched_count.l0
    rw [zl_length, List.append_nil, if_neg (by omega)]
    show some (m : Int) = some ((m * 1 : Nat) : Int)
    rw [Nat.mul_one]
  | n :: rest, pre, m, S, D, f, hD, hS, hl => by
    rw [List.sum_cons] at hS
    have ef : f + (n :: rest).sum + 2 * (n :: rest).length + 1 = (f + rest.sum + 2 * rest.length + 1) + n + 1 + 1 := by
      rw [List.sum_cons, List.length_cons]; omega
    rw [ef]
    rw [List.length_cons] at hl
    unfold sched_count.l0
    have hlen : (zl (pre ++ n :: rest)).length = pre.length + (rest.length + 1) := by rw [zl_length, List.length_append, List.length_cons]
    have hrd : rd (zl (pre ++ n :: rest)) (pre.length : Int) = (n : Int) := by
      rw [rd_zl]
      simp [List.getD_eq_getElem?_getD]
    rw [if_pos (by omega), if_pos (by omega), if_pos (by omega), hrd]
    have h := l1_eq m n S D hD (by omega) (zl (pre ++ n :: rest)) ((zl (pre ++ n :: rest)).length : Int) (pre.length : Int) n 0 (f + rest.sum + 2 * rest.length + 1) (by omega)
    rw [Nat.add_zero, bin_zero, Nat.mul_one] at h
    refine (show _ = _ from h).trans ?_
    have hD2 : m * bin (S + n) n * (D * fct n) = fct (S + n) := by
      rw [← bin_fct S n, ← hD]
      ac_rfl
    have ih := l0_eq rest (pre ++ [n]) (m * bin (S + n) n) (S + n) (D * fct n) f hD2 (by omega) (by rw [List.length_append]; show _ + 1 + _ ≤ _; omega)
    rw [List.append_assoc, List.length_append] at ih
    rw [w64 (by omega)]
    refine (show _ = _ from ih).trans ?_
    show some (((m * bin (S + n) n * cnt (S + n) rest : Nat)) : Int) = some ((m * (bin (S + n) n * cnt (S + n) rest) : Nat) : Int)
    rw [Nat.mul_assoc]
/-- parts that may be -/
structure Ok (p : List Nat) : Prop where
  len : p.length ≤ 8
  sum : p.sum ≤ 12
theorem count_eq {p : List Nat} (h : Ok p) : sched_count.f 100 (zl p) = some ((M p : Nat) : Int) := by
  obtain ⟨f, hf⟩ : ∃ f, 100 = f + p.sum + 2 * p.length + 1 := ⟨100 - (p.sum + 2 * p.length + 1), by have := h.len; have := h.sum; omega⟩
  have h1 := l0_eq p [] 1 0 1 f rfl (by have := h.sum; omega) (by have := h.len; simp; omega)
  rw [← hf] at h1
  show sched_count.l0 100 1 0 (zl p) ((zl p).length : Int) 0 = _
  refine (show _ = _ from h1).trans ?_
  rw [Nat.one_mul]
theorem right_spec : ∀ (rest pre : List Int) (a : Int) (f : Nat), 0 ≤ a → a ≤ 99 → pre.length + rest.length ≤ 8 →
    ∃ e, sched_right.l0 (f + rest.length + 1) a (pre ++ rest) ((pre ++ rest).length : Int) (pre.length : Int) = some e ∧ (e = 0 → ∃ p : List Nat, rest = zl p ∧ a + (p.sum : Int) ≤ 12)
  | [], pre, a, f, h0, h1, hl => by
    show ∃ e, sched_right.l0 (f + 1) _ _ _ _ = some e ∧ _
    unfold sched_right.l0
    rw [List.append_nil, if_neg (by omega)]
    by_cases ha : a > 12
    · exact ⟨2, by rw [if_pos ha], fun h => absurd h (by decide)⟩
    · exact ⟨0, by rw [if_neg ha], fun _ => ⟨[], rfl, by simp; omega⟩⟩
  | x :: rest, pre, a, f, h0, h1, hl => by
    rw [List.length_cons] at hl
    rw [show f + (x :: rest).length + 1 = f + rest.length + 1 + 1 by rw [List.length_cons]; omega]
    unfold sched_right.l0
    have hlen : (pre ++ x :: rest).length = pre.length + (rest.length + 1) := by rw [List.length_append, List.length_cons]
    have hrd : rd (pre ++ x :: rest) (pre.length : Int) = x := by
      unfold rd
      rw [Int.toNat_natCast]
      simp [List.getD_eq_getElem?_getD]
    rw [if_pos (by omega), if_pos (by omega), if_pos (by omega), hrd]
    by_cases hx : x < 0
    · exact ⟨1, by rw [if_pos hx], fun h => absurd h (by decide)⟩
    · rw [if_neg hx]
      have hm : 0 ≤ mn x 99 ∧ mn x 99 ≤ 99 ∧ (mn x 99 < 99 → mn x 99 = x) := by unfold mn; split <;> omega
      have hw : wrap64 (a + mn x 99) = a + mn x 99 := w64 (by omega)
      rw [hw]
      have hm2 : 0 ≤ mn (a + mn x 99) 99 ∧ mn (a + mn x 99) 99 ≤ 99 ∧ (mn (a + mn x 99) 99 < 99 → mn (a + mn x 99) 99 = a + mn x 99) := by
        generalize mn x 99 = y at *
        unfold mn; split <;> omega
      obtain ⟨e, h2, h3⟩ := right_spec rest (pre ++ [x]) (mn (a + mn x 99) 99) f hm2.1 hm2.2.1 (by rw [List.length_append]; show _ + 1 + _ ≤ _; omega)
      rw [List.append_assoc, show ((pre ++ [x]).length : Int) = (pre.length : Int) + 1 by simp] at h2
      rw [w64 (by omega)]
      refine ⟨e, h2, fun he => ?_⟩
      obtain ⟨p, rfl, hp⟩ := h3 he
      have hx2 : mn (a + mn x 99) 99 = a + x := by
        have := hm2.2.2 (by omega)
        have := hm.2.2 (by omega)
        omega
      refine ⟨x.toNat :: p, ?_, ?_⟩
      · show x :: zl p = ((x.toNat : Nat) : Int) :: zl p
        rw [show ((x.toNat : Nat) : Int) = x by omega]
      · rw [List.sum_cons]; omega
theorem right_eq (l : List Int) : ∃ e, sched_right.f 100 l = some e ∧ (e = 0 → ∃ p, l = zl p ∧ Ok p) := by
  unfold sched_right.f
  by_cases hl : (l.length : Int) > 8
  · exact ⟨2, by rw [if_pos hl], fun h => absurd h (by decide)⟩
  · rw [if_neg hl]
    obtain ⟨f, hf⟩ : ∃ f, 100 = f + l.length + 1 := ⟨100 - (l.length + 1), by omega⟩
    obtain ⟨e, h1, h2⟩ := right_spec l [] 0 f (by omega) (by omega) (by simp; omega)
    rw [← hf] at h1
    refine ⟨e, h1, fun he => ?_⟩
    obtain ⟨p, rfl, hp⟩ := h2 he
    rw [zl_length] at hl
    exact ⟨p, rfl, by omega, by omega⟩
theorem less_zl (p : List Nat) (k : Nat) (h : p.getD k 0 ≠ 0) (hs : p.getD k 0 ≤ 12) : less (zl p) k = zl (dec p k) := by
  unfold less dec
  rw [zl_getD, w64 (by omega)]
  unfold zl
  rw [List.map_set]
  congr 1
  omega
theorem Ok.dec {p : List Nat} (h : Ok p) {k : Nat} (hk : p.getD k 0 ≠ 0) : Ok (dec p k) :=
  ⟨by rw [dec_length]; exact h.len, by have := dec_sum p k (by omega); have := h.sum; omega⟩
theorem Ok.at {p : List Nat} (h : Ok p) (k : Nat) : p.getD k 0 ≤ 12 := Nat.le_trans (getD_le_sum p k) h.sum
theorem with_eq {p : List Nat} (h : Ok p) (i : Nat) : withF 100 (zl p) i = some ((W p i : Nat) : Int) := by
  unfold withF W
  rw [zl_getD]
  by_cases h0 : p.getD i 0 = 0
  · rw [if_pos (by omega), if_pos h0]; rfl
  · rw [if_neg (by omega), if_neg h0]
    have e := less_zl p i h0 (h.at i)
    unfold less at e
    rw [zl_getD] at e
    rw [e]
    exact count_eq (h.dec h0)
theorem M_small {p : List Nat} (h : Ok p) : M p ≤ 479001600 := Nat.le_trans (M_le p) (fct12 h.sum)
theorem pick_eq {p : List Nat} (h : Ok p) : ∀ (j f k n : Nat), k + j = p.length → SW p k + n < SW p p.length →
    ∃ k' n', pickF 100 (f + j) (zl p) (n : Int) k = some (k', ((n' : Nat) : Int)) ∧ k' < p.length ∧ SW p k + n = SW p k' + n' ∧ n' < W p k'
  | 0, f, k, n, hk, hn => by
    rw [show p.length = k by omega] at hn
    omega
  | j + 1, f, k, n, hk, hn => by
    show ∃ k' n', pickF 100 (f + j + 1) _ _ _ = _ ∧ _
    unfold pickF
    rw [zl_length, if_pos (by omega), with_eq h]
    show ∃ k' n', (if ((W p k : Nat) : Int) ≤ (n : Int) then _ else _) = _ ∧ _
    by_cases hw : W p k ≤ n
    · have hs : SW p (k + 1) = SW p k + W p k := rfl
      have hb : n < 1000000000 := by
        by_cases h0 : p.sum = 0
        · exfalso
          have hz : ∀ i, W p i = 0 := fun i => by unfold W; rw [if_pos (by have := getD_le_sum p i; omega)]
          have hz2 : ∀ i, SW p i = 0 := fun i => by
            induction i with
            | zero => rfl
            | succ i ih => show SW p i + W p i = 0; rw [ih, hz]
          rw [hz2 p.length] at hn
          omega
        · have h1 := SW_all p (by omega)
          have := M_small h
          omega
      rw [if_pos (by omega), show wrap64 ((n : Int) - ((W p k : Nat) : Int)) = ((n - W p k : Nat) : Int) by rw [w64 (by omega)]; omega]
      obtain ⟨k', n', h1, h2, h3, h4⟩ := pick_eq h j f (k + 1) (n - W p k) (by omega) (by omega)
      exact ⟨k', n', h1, h2, by omega, h4⟩
    · rw [if_neg (by omega)]
      exact ⟨k, n, rfl, by omega, rfl, by omega⟩
theorem any_zl (p : List Nat) : (zl p).any (fun y => decide (0 < y)) = decide (0 < p.sum) := by
  induction p with
  | nil => rfl
  | cons n p ih =>
    show (decide (0 < (n : Int)) || (zl p).any _) = _
    rw [ih, List.sum_cons]
    by_cases h1 : 0 < n <;> by_cases h2 : 0 < p.sum <;> simp [h1, h2] <;> omega
theorem nthL_eq : ∀ (T : Nat) (p : List Nat) (out : List Int) (n f : Nat), Ok p → p.sum = T → n < M p → out.length + T ≤ 1000 →
    ∃ q, nthL 100 (f + T + 1) (zl p) out (n : Int) = some (out ++ zl q) ∧ rk p q = some n
  | 0, p, out, n, f, h, hT, hn, ho => by
    rw [M_zero p hT] at hn
    refine ⟨[], ?_, ?_⟩
    · show nthL 100 (f + 1) _ _ _ = _
      unfold nthL
      rw [any_zl, hT]
      simp [zl]
    · unfold rk
      rw [if_pos hT]
      congr 1
      omega
  | T + 1, p, out, n, f, h, hT, hn, ho => by
    show ∃ q, nthL 100 (f + (T + 1) + 1) _ _ _ = _ ∧ _
    unfold nthL
    rw [any_zl, hT, if_pos (by simp)]
    have hl := h.len
    obtain ⟨k, r, h1, h2, h3, h4⟩ := pick_eq h p.length (100 - p.length) 0 n (by omega) (by rw [SW_all p (by omega)]; show 0 + n < _; omega)
    rw [show 100 - p.length + p.length = 100 by omega] at h1
    rw [h1]
    show ∃ q, (if out.length ≤ 1000 then _ else _) = _ ∧ _
    rw [if_pos (by omega)]
    have hk0 : p.getD k 0 ≠ 0 := by
      intro e
      unfold W at h4
      rw [if_pos e] at h4
      omega
    have hW : W p k = M (dec p k) := by unfold W; rw [if_neg hk0]
    obtain ⟨q, h5, h6⟩ := nthL_eq T (dec p k) (out ++ [(k : Int)]) r f (h.dec hk0) (by have := dec_sum p k (by omega); omega) (by omega) (by rw [List.length_append]; show _ + 1 + _ ≤ _; omega)
    refine ⟨k :: q, ?_, ?_⟩
    · show nthL 100 (f + T + 1) (less (zl p) k) (out ++ [(k : Int)]) (r : Int) = _
      rw [less_zl p k hk0 (h.at k), h5, List.append_assoc]
      rfl
    · unfold rk
      rw [if_pos ⟨h2, hk0⟩, h6]
      show some (SW p k + r) = some n
      congr 1
      have h3' : 0 + n = SW p k + r := h3
      omega
theorem nth_in {p : List Nat} (h : Ok p) (hr : sched_right.f 100 (zl p) = some 0) (n : Nat) (hn : n < M p) : ∃ q, nthF 100 (zl p) (n : Int) = some (zl q, 0) ∧ rk p q = some n := by
  obtain ⟨q, h1, h2⟩ := nthL_eq p.sum p [] n (100 - (p.sum + 1)) h rfl hn (by have := h.sum; simp; omega)
  rw [show 100 - (p.sum + 1) + p.sum + 1 = 100 by have := h.sum; omega] at h1
  refine ⟨q, ?_, h2⟩
  unfold nthF
  rw [hr]
  dsimp only [Option.bind]
  rw [if_pos rfl, if_neg (by omega), count_eq h]
  dsimp only [Option.bind]
  rw [if_neg (by omega), if_pos (by rw [zl_length]; have := h.len; omega), h1]
  rfl
theorem nth_out {p : List Nat} (h : Ok p) (hr : sched_right.f 100 (zl p) = some 0) (n : Int) (hn : ¬ (0 ≤ n ∧ n < (M p : Nat))) : nthF 100 (zl p) n = some ([], 1) := by
  unfold nthF
  rw [hr]
  dsimp only [Option.bind]
  rw [if_pos rfl]
  by_cases h0 : n < 0
  · rw [if_pos h0]
  · rw [if_neg h0, count_eq h]
    dsimp only [Option.bind]
    rw [if_pos (by omega)]
theorem nth_bad {l : List Int} {e : Int} (hr : sched_right.f 100 l = some e) (he : e ≠ 0) (n : Int) : nthF 100 l n = some ([], e) := by
  unfold nthF
  rw [hr]
  dsimp only [Option.bind]
  rw [if_neg he]

/-- n, and how many begin with steps of i, of i + 1 .. (f of them) -/
def sumW (K : Nat) (l : List Int) : Nat → Nat → Int → Option Int
  | 0, _, n => some n
  | f + 1, i, n => (withF K l i).bind fun x => sumW K l f (i + 1) (wrap64 (n + x))
def rankL (K : Nat) : List Int → List Int → Int → Option (Int × Int)
  | left, [], n => if left.any (fun y => decide (0 < y)) then some (0, 3) else some (n, 0)
  | left, k :: l, n => if k < 0 ∨ (left.length : Int) ≤ k then some (0, 3) else if left.getD k.toNat 0 = 0 then some (0, 3) else (sumW K left k.toNat 0 n).bind fun n' => rankL K (less left k.toNat) l n'
/-- what Rank tells -/
def rankF (K : Nat) (parts l : List Int) : Option (Int × Int) := (sched_right.f K parts).bind fun e => if e = 0 then (if parts.length ≤ 1000 then rankL K parts l 0 else none) else some (0, e)
theorem sumW_eq {p : List Nat} (h : Ok p) : ∀ (f i n : Nat), n + SW p (i + f) ≤ 1000000000 + SW p i → sumW 100 (zl p) f i (n : Int) = some ((n + (SW p (i + f) - SW p i) : Nat) : Int)
  | 0, i, n, hb => by
    show some (n : Int) = _
    rw [Nat.add_zero, Nat.sub_self, Nat.add_zero]
  | f + 1, i, n, hb => by
    unfold sumW
    rw [with_eq h]
    show sumW 100 (zl p) f (i + 1) (wrap64 ((n : Int) + ((W p i : Nat) : Int))) = _
    have hs : SW p (i + 1) = SW p i + W p i := rfl
    have hle := SW_le p (show i + 1 ≤ i + (f + 1) by omega)
    rw [show wrap64 ((n : Int) + ((W p i : Nat) : Int)) = ((n + W p i : Nat) : Int) by rw [w64 (by omega)]; omega]
    have ih := sumW_eq h f (i + 1) (n + W p i) (by rw [show i + 1 + f = i + (f + 1) by omega]; omega)
    rw [ih, show i + 1 + f = i + (f + 1) by omega]
    congr 1
    omega
theorem rank_eq : ∀ (l : List Int) (p : List Nat) (n : Nat), Ok p → n + M p ≤ 479001600 →
    (∃ q r, l = zl q ∧ rk p q = some r ∧ rankL 100 (zl p) l (n : Int) = some (((n + r : Nat) : Int), 0)) ∨ ((∀ q r, l = zl q → rk p q ≠ some r) ∧ rankL 100 (zl p) l (n : Int) = some (0, 3))
  | [], p, n, h, hn => by
    unfold rankL
    rw [any_zl]
    by_cases hs : p.sum = 0
    · refine .inl ⟨[], 0, rfl, by unfold rk; rw [if_pos hs], ?_⟩
      rw [hs, if_neg (by decide), Nat.add_zero]
    · refine .inr ⟨fun q r hq hr => ?_, ?_⟩
      · have e : q = [] := by
          cases q with
          | nil => rfl
          | cons x q => simp [zl] at hq
        subst e
        exact hs (rk_nil hr).1
      · rw [if_pos (by simp; omega)]
  | x :: l, p, n, h, hn => by
    unfold rankL
    have bad : ∀ q r, (x :: l) = zl q → rk p q = some r → ∃ k q', x = ((k : Nat) : Int) ∧ l = zl q' ∧ k < p.length ∧ p.getD k 0 ≠ 0 ∧ ∃ r', rk (dec p k) q' = some r' ∧ r = SW p k + r' := by
      intro q r hq hr
      cases q with
      | nil => simp [zl] at hq
      | cons k q =>
        have h1 : x = ((k : Nat) : Int) ∧ l = zl q := List.cons.inj hq
        obtain ⟨h2, h3, h4⟩ := rk_cons hr
        exact ⟨k, q, h1.1, h1.2, h2, h3, h4⟩
    by_cases hx : x < 0 ∨ ((zl p).length : Int) ≤ x
    · rw [if_pos hx]
      refine .inr ⟨fun q r hq hr => ?_, rfl⟩
      obtain ⟨k, q', e, _, h2, _⟩ := bad q r hq hr
      rw [zl_length] at hx
      omega
    · rw [if_neg hx]
      rw [zl_length] at hx
      obtain ⟨k, rfl⟩ : ∃ k : Nat, x = (k : Int) := ⟨x.toNat, by omega⟩
      rw [Int.toNat_natCast, zl_getD]
      by_cases h0 : p.getD k 0 = 0
      · rw [if_pos (by omega)]
        refine .inr ⟨fun q r hq hr => ?_, rfl⟩
        obtain ⟨k', q', e, _, _, h3, _⟩ := bad q r hq hr
        obtain rfl : k = k' := by omega
        exact h3 h0
      · rw [if_neg (by omega)]
        have hW : SW p (k + 1) = SW p k + M (dec p k) := by show SW p k + W p k = _; unfold W; rw [if_neg h0]
        have hM : SW p (k + 1) ≤ M p := by
          have := dec_sum p k (by omega)
          rw [← SW_all p (by omega)]
          exact SW_le p (by omega)
        have e1 := sumW_eq h k 0 n (by rw [Nat.zero_add]; show n + SW p k ≤ _ + 0; omega)
        rw [Nat.zero_add] at e1
        rw [e1]
        show (∃ q r, _ ∧ _ ∧ rankL 100 (less (zl p) k) l _ = _) ∨ (_ ∧ rankL 100 (less (zl p) k) l _ = _)
        rw [less_zl p k h0 (h.at k), show n + (SW p k - SW p 0) = n + SW p k from rfl]
        rcases rank_eq l (dec p k) (n + SW p k) (h.dec h0) (by omega) with ⟨q, r, h1, h2, h3⟩ | ⟨h1, h2⟩
        · refine .inl ⟨k :: q, SW p k + r, by rw [h1]; rfl, ?_, ?_⟩
          · unfold rk
            rw [if_pos ⟨by omega, h0⟩, h2]
            rfl
          · rw [h3]
            congr 3
            omega
        · refine .inr ⟨fun q r hq hr => ?_, h2⟩
          obtain ⟨k', q', e, e2, _, _, r', h4, _⟩ := bad q r hq hr
          obtain rfl : k = k' := by omega
          exact h1 q' r' e2 h4
theorem rank_in {p : List Nat} (h : Ok p) (hr : sched_right.f 100 (zl p) = some 0) (l : List Int) :
    (∃ q r, l = zl q ∧ rk p q = some r ∧ rankF 100 (zl p) l = some ((r : Int), 0)) ∨ rankF 100 (zl p) l = some (0, 3) := by
  have e : rankF 100 (zl p) l = rankL 100 (zl p) l ((0 : Nat) : Int) := by
    unfold rankF
    rw [hr]
    dsimp only [Option.bind]
    rw [if_pos rfl, if_pos (by rw [zl_length]; have := h.len; omega)]
    rfl
  rw [e]
  rcases rank_eq l p 0 h (by have := M_small h; omega) with ⟨q, r, h1, h2, h3⟩ | ⟨_, h2⟩
  · exact .inl ⟨q, r, h1, h2, by rw [h3, Nat.zero_add]⟩
  · exact .inr h2
theorem rank_bad {l : List Int} {e : Int} (hr : sched_right.f 100 l = some e) (he : e ≠ 0) (m : List Int) : rankF 100 l m = some (0, e) := by
  unfold rankF
  rw [hr]
  dsimp only [Option.bind]
  rw [if_neg he]
theorem rank_of {p : List Nat} (h : Ok p) (hr : sched_right.f 100 (zl p) = some 0) {q : List Nat} {r : Nat} (hq : rk p q = some r) : rankF 100 (zl p) (zl q) = some ((r : Int), 0) := by
  have e : rankF 100 (zl p) (zl q) = rankL 100 (zl p) (zl q) ((0 : Nat) : Int) := by
    unfold rankF
    rw [hr]
    dsimp only [Option.bind]
    rw [if_pos rfl, if_pos (by rw [zl_length]; have := h.len; omega)]
    rfl
  rw [e]
  rcases rank_eq (zl q) p 0 h (by have := M_small h; omega) with ⟨q', r', h1, h2, h3⟩ | ⟨h1, _⟩
  · obtain rfl := zl_inj h1
    rw [hq] at h2
    obtain rfl := Option.some.inj h2
    rw [h3, Nat.zero_add]
  · exact absurd hq (h1 q r rfl)
end Go.Proofs.Ytblalidpeccabac.Sd
