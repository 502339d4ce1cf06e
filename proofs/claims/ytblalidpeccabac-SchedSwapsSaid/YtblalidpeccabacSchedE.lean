/- slices.ContainsFunc of ints with a closure; sched.thread; sched.Pack: their walks. -/
import Derived.Test.YtblalidpeccabacSchedB
namespace Go.Proofs.Ytblalidpeccabac.Sd
open Go Go.RowKit Go.Lib Go.Proofs.YtblalidpeccabacW.PrintWords Go.Proofs.YtblalidpeccabacW.PrintLast Go.Proofs.YtblalidpeccabacW.PrintMore Go.Proofs.Ytblalidpeccabac.PSchedBack Go.Proofs.Ytblalidpeccabac.Bs
set_option linter.unusedVariables false
set_option linter.unusedSimpArgs false
attribute [local go_sem] max2_int min2_int max_two min_two

/-- the first of which it is said; -1: there is none -/
def idx {α : Type} (p : α → Bool) (xs : List α) : Int := match xs.findIdx? p with
  | some k => (k : Int)
  | none => -1
theorem idx_any {α : Type} (p : α → Bool) (xs : List α) : decide (0 ≤ idx p xs) = xs.any p := by
  unfold idx
  cases h : xs.findIdx? p with
  | some k =>
    obtain ⟨hk, h1, _⟩ := List.findIdx?_eq_some_iff_getElem.1 h
    have : xs.any p = true := List.any_eq_true.2 ⟨_, List.getElem_mem hk, h1⟩
    rw [this]
    simp
  | none =>
    have h1 := List.findIdx?_eq_none_iff.1 h
    have : xs.any p = false := List.any_eq_false.2 (fun x hx => by simp [h1 x hx])
    rw [this]
    rfl
theorem idx_at {α : Type} {p : α → Bool} {xs : List α} {k : Nat} (hk : k < xs.length) (h1 : p xs[k] = true) (h0 : ∀ j (hj : j < k), p (xs[j]'(by omega)) = false) : idx p xs = (k : Int) := by
  unfold idx
  rw [List.findIdx?_eq_some_iff_getElem.2 ⟨hk, h1, fun j hj => by simp [h0 j hj]⟩]
theorem idx_none {α : Type} {p : α → Bool} {xs : List α} (h0 : ∀ j (hj : j < xs.length), p xs[j] = false) : idx p xs = -1 := by
  unfold idx
  rw [List.findIdx?_eq_none_iff.2 (fun x hx => by
    obtain ⟨j, hj, rfl⟩ := List.getElem_of_mem hx
    exact h0 j hj)]

/-- a function value that answers p of xs, from the world w0 on -/
structure Asks {α : Type} (f : FuncId) (cap : Array Value) (w0 : World) (enc : α → Value) (xs : List α) (p : α → Bool) : Prop where
  eg : ∀ args w, (callFunc f args).run Try.prog w = .ok (.enter f args) w
  calls : ∀ x ∈ xs, ∀ w : World, Below w0.heap.size w0 w → Calls Try.prog f (#[enc x] ++ cap) w fun e w' => e = .returned (.bool (p x)) ∧ Below w.heap.size w w'

set_option maxHeartbeats 8000000 in
set_option maxRecDepth 100000 in
theorem indexI_calls (w : World) (A : Option Addr) (c : Nat) (xs : List Int) (f : FuncId) (cap : Array Value) (p : Int → Bool) (hr : Kd.C (Kd.int .i64) w A xs.length xs) (hc : xs.length ≤ c) (hf : Asks f cap w (Value.int .i64) xs p) :
    Calls Try.prog 57 #[.slice A xs.length c, .func (.func f) #[] cap] w fun e w' => e = .returned (.int .i64 (idx p xs)) ∧ Below w.heap.size w w' := by
  have hn : xs.length ≤ 9223372036854775807 := hr.2.1
  have HR := Aside0.mk hr
  have HF := Aside0.mk hf
  have eg := hf.eg
  clear hr hf
  go_enter Try.func57, Try.ntmps57
  go_wp2_with fail
  go_loopw [8] (fun i wr => ∃ k : Nat, k ≤ xs.length ∧ i = .int .i64 (k : Int) ∧ Aside0 (∀ j (hj : j < k) (hj' : j < xs.length), p xs[j] = false) ∧ Aside0 (Below w.heap.size w wr)) (fun i _ => xs.length - (intOf i).toNat)
  case atStart => exact ⟨0, Nat.zero_le _, rfl, ⟨fun j hj => absurd hj (by omega)⟩, ⟨Below.refl _ _⟩⟩
  case round =>
    obtain ⟨k, hk, rfl, HP, HB⟩ := hrel
    by_cases hlt : k < xs.length
    · have hk1 : (k : Int) < (xs.length : Int) := by omega
      obtain ⟨ad, rfl, h0⟩ := Kd.at_int (Kd.C_below HR.out HB.out) (k : Int) (by omega) (by omega)
      have hrd : rd xs (k : Int) = xs[k] := by simp [rd, List.getD_eq_getElem?_getD, hlt]
      rw [hrd, Int.toNat_natCast] at h0
      have HC := Aside0.mk (HF.out.calls xs[k] (List.getElem_mem _) wr HB.out)
      obtain ⟨z, hz⟩ : ∃ z, z = xs[k] := ⟨_, rfl⟩
      rw [← hz] at h0 HC
      have HZ := Aside0.mk hz
      clear hz hrd
      go_wp2_with fail
      refine HC.out.mono ?_
      rintro e w2 ⟨rfl, hb⟩
      have HB2 := Aside0.mk (below_then HB.out HB.out.size hb)
      clear hb
      cases hp : p z with
      | true =>
        have HX := Aside0.mk (show idx p xs = (k : Int) from idx_at hlt (by rw [← HZ.out]; exact hp) (fun j hj => HP.out j hj (by omega)))
        clear hp
        go_wp2
        go_ret
        exact ⟨by rw [HX.out]; rfl, HB2.out⟩
      | false =>
        have HX := Aside0.mk hp
        clear hp
        go_wp2
        go_roundw
        case rel => exact ⟨k + 1, by omega, by go_num, ⟨fun j hj hj' => by
          by_cases e : j = k
          · subst e; rw [← HZ.out]; exact HX.out
          · exact HP.out j (by omega) hj'⟩, HB2⟩
        case measure => simp [intOf]; omega
    · have hk' : k = xs.length := by omega
      subst hk'
      have HX := Aside0.mk (show idx p xs = -1 from idx_none (fun j hj => HP.out j hj hj))
      go_wp2
      go_ret
      exact ⟨by rw [HX.out]; rfl, HB.out⟩

set_option maxHeartbeats 8000000 in
set_option maxRecDepth 100000 in
theorem containsI_calls (w : World) (A : Option Addr) (c : Nat) (xs : List Int) (f : FuncId) (cap : Array Value) (p : Int → Bool) (hr : Kd.C (Kd.int .i64) w A xs.length xs) (hc : xs.length ≤ c) (hf : Asks f cap w (Value.int .i64) xs p) :
    Calls Try.prog 43 #[.slice A xs.length c, .func (.func f) #[] cap] w fun e w' => e = .returned (.bool (xs.any p)) ∧ Below w.heap.size w w' := by
  have HR := Aside0.mk hr
  have HF := Aside0.mk hf
  clear hr hf
  go_enter Try.func43, Try.ntmps43
  go_wp2_with fail
  refine (indexI_calls w A c xs f cap p HR.out hc HF.out).mono ?_
  rintro e w1 ⟨rfl, hb⟩
  have HB := Aside0.mk hb
  have HI := Aside0.mk (idx_any p xs)
  clear hb
  generalize idx p xs = q at HI ⊢
  go_wp2
  go_ret
  exact ⟨by rw [← HI.out]; rfl, HB.out⟩

/-- a thread that may be -/
def thr (n : Int) : Bool := decide (0 ≤ n) && decide (n < 8)
set_option maxHeartbeats 2000000 in
set_option maxRecDepth 100000 in
theorem thread_calls (w : World) (n : Int) : Calls Try.prog 45 #[.int .i64 n] w fun e w' => e = .returned (.bool (thr n)) ∧ Below w.heap.size w w' := by
  unfold thr
  by_cases h : 0 ≤ n
  · go_enter Try.func45, Try.ntmps45
    go_wp2
    go_ret
    exact ⟨by simp [h], Below.refl _ _⟩
  · go_enter Try.func45, Try.ntmps45
    go_wp2
    go_ret
    exact ⟨by simp; intro h2; omega, Below.refl _ _⟩
theorem pack1_asks (w : World) (xs : List Int) : Asks 44 #[] w (Value.int .i64) xs (fun n => !thr n) := by
  refine ⟨fun args w => enters_ Try.func44 (by kernel_rfl) rfl args w, fun x hx W hW => ?_⟩
  show Calls Try.prog 44 #[.int .i64 x] W _
  go_enter Try.func44, Try.ntmps44
  go_wp2_with fail
  refine (thread_calls _ x).mono ?_
  rintro e w2 ⟨rfl, hb⟩
  have HB := Aside0.mk hb
  clear hb
  go_wp2
  go_ret
  exact ⟨rfl, HB.out⟩

/-- one more into runs -/
def packAdd (out : List S57) (n : Int) : List S57 := match out.getLast? with
  | some r => if r.f0 = n then out.dropLast ++ [⟨n, wrap64 (r.f1 + 1)⟩] else out ++ [⟨n, 1⟩]
  | none => [⟨n, 1⟩]
def packL (l : List Int) : List S57 := l.foldl packAdd []
theorem packAdd_nil (n : Int) : packAdd [] n = [⟨n, 1⟩] := rfl
theorem packAdd_eq (o : List S57) (r : S57) (n : Int) (h : r.f0 = n) : packAdd (o ++ [r]) n = o ++ [⟨n, wrap64 (r.f1 + 1)⟩] := by
  unfold packAdd
  rw [List.getLast?_concat]
  simp [h]
theorem packAdd_ne (o : List S57) (r : S57) (n : Int) (h : ¬ r.f0 = n) : packAdd (o ++ [r]) n = o ++ [r] ++ [⟨n, 1⟩] := by
  unfold packAdd
  rw [List.getLast?_concat]
  simp [h]
theorem packAdd_len (o : List S57) (n : Int) : (packAdd o n).length ≤ o.length + 1 := by
  rcases List.eq_nil_or_concat o with h | ⟨o', r, h⟩
  · rw [h]; exact Nat.le_refl _
  · have e : o = o' ++ [r] := by rw [h]; simp
    rw [e]
    by_cases hr : r.f0 = n
    · rw [packAdd_eq _ _ _ hr]; simp
    · rw [packAdd_ne _ _ _ hr]; simp
/-- runs of one's own, at the head of block g -/
abbrev RP (w : World) (base g n c : Nat) (xs : List S57) : Prop := Kd.R k57 57 w base (fun _ => True) (.slice (some ⟨g, 0, none⟩) n c) xs
theorem RP.len {w : World} {base g n c : Nat} {xs : List S57} (h : RP w base g n c xs) : n = xs.length := (Kd.R_reads' h).1
theorem RP.cells {w : World} {base g n c : Nat} {xs : List S57} (h : RP w base g n c xs) (i : Nat) (hi : i < xs.length) : w.cell? ⟨g, i * 2, none⟩ = some (.int .i64 xs[i].f0) ∧ w.cell? ⟨g, i * 2 + 1, none⟩ = some (.int .i64 xs[i].f1) ∧ w.frozen? ⟨g, i * 2 + 1, none⟩ = false := by
  have hlen := h.len
  obtain ⟨cs, hcl, hM, hcell, _⟩ := Kd.R_elem h z57 (i : Int) (by omega) (by omega)
  rw [show xs.getD (Int.toNat (i : Int)) z57 = xs[i] by simp [List.getD_eq_getElem?_getD, hi]] at hM
  obtain rfl := k57_openM hM
  have h0 := hcell 0 _ rfl
  have h1 := hcell 1 _ rfl
  rw [Int.toNat_natCast] at h0 h1
  refine ⟨h0, h1, ?_⟩
  obtain ⟨inner, hown⟩ := Kd.R_own h
  rcases hown.2 with ⟨hv, _⟩ | ⟨g', cap', cur, hv, hb, hh, _⟩
  · cases hv
  injection hv with ha _ _
  injection ha with ha
  injection ha with ha
  rw [← ha] at hh
  exact blk_frozen hh _
/-- a run grows by one -/
theorem RP.put {w : World} {base g n c : Nat} {xs : List S57} (h : RP w base g n c xs) (i : Nat) (hi : i < xs.length) (u : Int) : RP (w.setCell ⟨g, i * 2 + 1, none⟩ (.int .i64 u)) base g n c (xs.set i ⟨xs[i].f0, u⟩) ∧ w.grownBy (w.setCell ⟨g, i * 2 + 1, none⟩ (.int .i64 u)) (some g) := by
  have hlen := h.len
  obtain ⟨hc0, hc1, _⟩ := h.cells i hi
  have h1 := Kd.R_seg (d := k57) h (i : Int) (by omega) (by omega) (c := [.int .i64 xs[i].f0, .int .i64 xs[i].f1]) (j := 1) (seg := [.int .i64 u]) (x' := ⟨xs[i].f0, u⟩) (okp := fun _ => False) rfl (fun j v hj => by
    rw [Int.toNat_natCast]
    match j, hj with
    | 0, hj => obtain rfl := Option.some.inj hj; exact hc0
    | 1, hj => obtain rfl := Option.some.inj hj; exact hc1) (Nat.le_refl 2) (k57_mkM _ _ _ _) (fun _ hk => hk.elim)
  rw [Int.toNat_natCast] at h1
  exact h1
theorem RP.form {w : World} {base : Nat} {v : Value} {xs : List S57} (h : Kd.R k57 57 w base (fun _ => True) v xs) (hp : 0 < xs.length) : ∃ g c, v = .slice (some ⟨g, 0, none⟩) xs.length c ∧ RP w base g xs.length c xs := by
  obtain ⟨g, c, rfl, _⟩ := Kd.R_form h hp
  exact ⟨g, c, rfl, h⟩
theorem C_one57 {W : World} {g : Nat} {a b : Int} (hb : W.heap[g]? = some (.cells #[.int .i64 a, .int .i64 b] 57 (0, 0))) : Kd.C k57 W (some ⟨g, 0, none⟩) 1 [⟨a, b⟩] := by
  refine ⟨rfl, by omega, fun _ => ⟨_, rfl, fun j p hj => ?_⟩⟩
  match j, hj with
  | 0, hj =>
    obtain rfl := Option.some.inj hj
    refine ⟨[.int .i64 a, .int .i64 b], rfl, k57_mk _ ⟨a, b⟩, fun i u hu => ?_⟩
    rw [Addr.add_mid, blk_cell hb]
    match i, hu with
    | 0, hu => obtain rfl := Option.some.inj hu; rfl
    | 1, hu => obtain rfl := Option.some.inj hu; rfl

theorem info57z : (Try.prog.info? 57).map (fun i => (i.zero, i.size, i.bytes)) = some (some (.agg #[.int .i64 0, .int .i64 0]), 2, 16) := by kernel_rfl
/-- what Pack tells -/
def Packs (l : List Int) (r : Int) (x : List S57) : Prop :=
  (r = 2 ∧ x = [] ∧ 200 < l.length) ∨ (r = 1 ∧ x = [] ∧ l.length ≤ 200 ∧ l.any (fun n => !thr n) = true) ∨ (r = 0 ∧ l.length ≤ 200 ∧ l.any (fun n => !thr n) = false ∧ x = packL l)
theorem packL_step {l : List Int} {i : Nat} (hi : i < l.length) : packL (l.take (i + 1)) = packAdd (packL (l.take i)) l[i] := by
  unfold packL
  rw [List.take_succ_eq_append_getElem hi, List.foldl_append]
  rfl
theorem packL_len (l : List Int) (i : Nat) : (packL (l.take i)).length ≤ i := by
  induction i with
  | zero => simp [packL]
  | succ i ih =>
    by_cases hi : i < l.length
    · rw [packL_step hi]
      exact Nat.le_trans (packAdd_len _ _) (by omega)
    · rw [List.take_of_length_le (by omega)] at ih ⊢
      omega

set_option maxHeartbeats 16000000 in
set_option maxRecDepth 100000 in
theorem pack_calls (w : World) (A : Option Addr) (c : Nat) (l : List Int) (hr : Kd.C kI w A l.length l) (hc : l.length ≤ c) :
    Calls Try.prog 22 #[.slice A l.length c] w fun e w' => ∃ v r x, e = .returned (.tuple #[v, .int .i64 r]) ∧ Kd.R k57 57 w' w.heap.size (fun _ => True) v x ∧ Below w.heap.size w w' ∧ Packs l r x := by
  have hn : l.length ≤ 9223372036854775807 := hr.2.1
  have HR := Aside0.mk hr
  clear hr
  by_cases hbig : 200 < l.length
  · have hb1 : (200 : Int) < (l.length : Int) := by omega
    have HM := Aside0.mk (show Packs l 2 [] from .inl ⟨rfl, rfl, hbig⟩)
    go_enter Try.func22, Try.ntmps22
    go_wp2
    exact bodyPost_ret (v := .tuple #[.slice none 0 0, .int .i64 2]) (by simp [results, Try.f22, go_sem]) rfl ⟨_, _, _, rfl, Kd.R_nil _ _ _ _ _, Below.refl _ _, HM.out⟩
  · have hle : l.length ≤ 200 := by omega
    have hle2 : (l.length : Int) ≤ 200 := by omega
    have HCO := Aside0.mk (containsI_calls w A c l 44 #[] _ HR.out hc (pack1_asks w l))
    go_enter Try.func22, Try.ntmps22
    go_wp2_with fail
    refine HCO.out.mono ?_
    rintro e w1 ⟨rfl, hb⟩
    have HB := Aside0.mk hb
    clear hb HCO
    by_cases hany : l.any (fun n => !thr n) = true
    · have HM := Aside0.mk (show Packs l 1 [] from .inr (.inl ⟨rfl, rfl, hle, hany⟩))
      rw [hany]
      clear hany
      go_wp2
      exact bodyPost_ret (v := .tuple #[.slice none 0 0, .int .i64 1]) (by simp [results, Try.f22, go_sem]) rfl ⟨_, _, _, rfl, Kd.R_nil _ _ _ _ _, HB.out, HM.out⟩
    · have hany2 : l.any (fun n => !thr n) = false := by simpa using hany
      have HAN := Aside0.mk hany2
      rw [hany2]
      clear hany hany2
      go_wp2_with fail
      go_loopw [4, 17] (fun v4 v17 wr => ∃ i : Nat, v17 = .int .i64 (i : Int) ∧ i ≤ l.length ∧ Aside0 (Kd.R k57 57 wr w.heap.size (fun _ => True) v4 (packL (l.take i))) ∧ Aside0 (Below w.heap.size w wr)) (fun _ v17 _ => l.length - (intOf v17).toNat)
      case atStart => exact ⟨0, rfl, Nat.zero_le _, ⟨Kd.R_nil _ _ _ _ _⟩, HB⟩
      case round =>
        clear HB
        obtain ⟨i, rfl, hi, HO, HB⟩ := hrel
        by_cases hlt : i < l.length
        · have hlt1 : (i : Int) < (l.length : Int) := by omega
          obtain ⟨ad, rfl, h0⟩ := C_cell (Kd.C_below HR.out HB.out) i hlt
          obtain ⟨y, hy⟩ : ∃ y, y = l[i] := ⟨_, rfl⟩
          rw [← hy] at h0
          obtain ⟨X, hX⟩ : ∃ X, X = packL (l.take i) := ⟨_, rfl⟩
          have HST := Aside0.mk (show packL (l.take (i + 1)) = packAdd X y by rw [packL_step hlt, ← hX, ← hy])
          have HXL := Aside0.mk (show X.length ≤ i by rw [hX]; exact packL_len l i)
          rw [← hX] at HO
          clear hX hy
          rcases List.eq_nil_or_concat X with hX0 | ⟨o, q, hXq⟩
          · subst hX0
            have HST2 := Aside0.mk (show packL (l.take (i + 1)) = [⟨y, 1⟩] from HST.out.trans (packAdd_nil y))
            obtain ⟨A1, d1, rfl, hd1, -⟩ := Kd.R_reads HO.out
            have HO2 := HO
            clear HST HXL
            go_wp2_with (at_builtin; refine Kd.R_append_rows k57 (w0 := w) w.heap.size rfl _ _ 52 57 (.agg #[.int .i64 0, .int .i64 0]) 16 rfl Try.underlying52 info57z rfl (by decide) (by omega) _ [] [⟨y, 1⟩] _ 1 1 (fun _ => True) (fun _ => False) rfl rfl (Kd.R_alloc HO2.out _) (C_one57 (heap_alloc_new _ _)) (fun x cs h => by obtain rfl := k57_open h; exact k57_mkM _ _ _ x) (fun _ h => h.elim) (fun _ _ => trivial) (below_alloc HB.out _) (below_alloc HB.out _).size (by decide) ?_; intro v1 w3 hown hB hg hat; have HO3 := Aside0.mk hown; have HB3 := Aside0.mk hB; clear hown hB hg hat)
            go_roundw
            case rel => exact ⟨i + 1, by go_num, hlt, ⟨by rw [HST2.out]; exact HO3.out⟩, HB3⟩
            case measure => simp [intOf]; omega
          · have hXq2 : X = o ++ [q] := by rw [hXq]; simp
            subst hXq2
            obtain ⟨g, d1, rfl, hRP⟩ := RP.form HO.out (by simp)
            obtain ⟨m, hm⟩ : ∃ m, m = o.length := ⟨_, rfl⟩
            have hml : (o ++ [q]).length = m + 1 := by rw [hm]; simp
            rw [hml] at hRP HXL ⊢
            have HML := Aside0.mk hml
            obtain ⟨hq0, hq1, hqf⟩ := hRP.cells m (by omega)
            have hqm : (o ++ [q])[m]'(by omega) = q := by simp [hm]
            rw [hqm] at hq0 hq1
            have HRP := Aside0.mk hRP
            have HMO := Aside0.mk hm
            have hm200 : m < 200 := by have := HXL.out; omega
            have hgb := Kd.R_base hRP g rfl
            have HGB := Aside0.mk hgb
            have hmd : m + 1 ≤ d1 := (Kd.R_reads' hRP).2.1
            have hwm : IntKind.i64.wrap (((m + 1 : Nat) : Int) - 1) = (m : Int) := by rw [IntKind.wrap_i64]; omega
            obtain ⟨M, hM⟩ : ∃ M, M = m + 1 := ⟨_, rfl⟩
            have HMM := Aside0.mk hM
            rw [← hM] at hwm hmd HRP ⊢
            have hmM : (m : Int) < (M : Int) := by omega
            have hmM2 : m < M := by omega
            clear hRP hm hml hXq hqm HO hgb hM
            obtain ⟨q0, q1⟩ := q
            by_cases hqy : q0 = y
            · have HST2 := Aside0.mk (show packL (l.take (i + 1)) = (o ++ [(⟨q0, q1⟩ : S57)]).set m (⟨q0, wrap64 (q1 + 1)⟩ : S57) by
                rw [HST.out, packAdd_eq o ⟨q0, q1⟩ y hqy, HMO.out]
                simp [hqy])
              have HP := Aside0.mk (show RP (wr.setCell ⟨g, m * 2 + 1, none⟩ (.int .i64 (wrap64 (q1 + 1)))) w.heap.size g M d1 ((o ++ [(⟨q0, q1⟩ : S57)]).set m (⟨q0, wrap64 (q1 + 1)⟩ : S57)) ∧ wr.grownBy (wr.setCell ⟨g, m * 2 + 1, none⟩ (.int .i64 (wrap64 (q1 + 1)))) (some g) from by
                have h := HRP.out.put m (by rw [HML.out]; omega) (wrap64 (q1 + 1))
                rwa [show (o ++ [(⟨q0, q1⟩ : S57)])[m]'(by rw [HML.out]; omega) = ⟨q0, q1⟩ by simp [HMO.out]] at h)
              have hwq := show IntKind.i64.wrap (q1 + 1) = wrap64 (q1 + 1) by rw [IntKind.wrap_i64]; unfold wrap64; omega
              obtain ⟨u, hu⟩ : ∃ u, u = wrap64 (q1 + 1) := ⟨_, rfl⟩
              rw [← hu] at HP HST2 hwq
              clear hu HST
              subst hqy
              go_wp2
              go_roundw
              case rel => exact ⟨i + 1, by go_num, hlt, ⟨by rw [HST2.out]; exact HP.out.1⟩, ⟨Below.grown HB.out HP.out.2 HB.out.size (fun k hk => by cases hk; exact HGB.out)⟩⟩
              case measure => simp [intOf]; omega
            · have HST2 := Aside0.mk (show packL (l.take (i + 1)) = o ++ [⟨q0, q1⟩] ++ [⟨y, 1⟩] from HST.out.trans (packAdd_ne o ⟨q0, q1⟩ y hqy))
              clear HST
              go_wp2_with (at_builtin; refine Kd.R_append_rows k57 (w0 := w) w.heap.size rfl _ _ 52 57 (.agg #[.int .i64 0, .int .i64 0]) 16 rfl Try.underlying52 info57z rfl (by decide) (by omega) _ (o ++ [⟨q0, q1⟩]) [⟨y, 1⟩] _ 1 1 (fun _ => True) (fun _ => False) rfl rfl (Kd.R_alloc HRP.out _) (C_one57 (heap_alloc_new _ _)) (fun x cs h => by obtain rfl := k57_open h; exact k57_mkM _ _ _ x) (fun _ h => h.elim) (fun _ _ => trivial) (below_alloc HB.out _) (below_alloc HB.out _).size (by have := HML.out; have := HXL.out; show ((o ++ [(⟨q0, q1⟩ : S57)]).length + 1) * 16 ≤ _; omega) ?_; intro v1 w3 hown hB hg hat; have HO3 := Aside0.mk hown; have HB3 := Aside0.mk hB; clear hown hB hg hat)
              go_roundw
              case rel => exact ⟨i + 1, by go_num, hlt, ⟨by rw [HST2.out]; exact HO3.out⟩, HB3⟩
              case measure => simp [intOf]; omega
        · have hle3 : l.length ≤ i := by omega
          have HM := Aside0.mk (show Packs l 0 (packL (l.take i)) from .inr (.inr ⟨rfl, hle, HAN.out, by rw [List.take_of_length_le hle3]⟩))
          generalize packL (l.take i) = X at HO HM
          go_wp2
          exact bodyPost_ret (v := .tuple #[u4, .int .i64 0]) (by simp [results, Try.f22, go_sem]) rfl ⟨_, _, _, rfl, HO.out, HB.out, HM.out⟩
end Go.Proofs.Ytblalidpeccabac.Sd
