/- sched.Normal: its walk. -/
import Derived.Test.YtblalidpeccabacSchedV
namespace Go.Proofs.Ytblalidpeccabac.Sd
open Go Go.RowKit Go.Proofs.YtblalidpeccabacW Go.Proofs.YtblalidpeccabacW.PrintWords Go.Proofs.YtblalidpeccabacW.PrintLast Go.Proofs.YtblalidpeccabacW.PrintMore Go.Proofs.Ytblalidpeccabac.PSchedBack Go.Proofs.Ytblalidpeccabac.Bs
open Go.Lib hiding intOf
set_option linter.unusedVariables false
set_option linter.unusedSimpArgs false
attribute [local go_sem] max2_int min2_int max_two min_two

abbrev kR : Kd (List Int) := Kd.slice 3 kI
/-- rows of one's own, apart from each other -/
abbrev OS (w : World) (bo : Nat) (v : Value) (xs : List (List Int)) : Prop := Kd.S kR 23 w bo (fun _ => True) v xs
theorem info23z : (Try.prog.info? 23).map (fun i => (i.zero, i.size, i.bytes)) = some (some (.slice none 0 0), 1, 24) := by kernel_rfl
theorem OS.below {w w1 : World} {bo : Nat} {v : Value} {xs : List (List Int)} (h : OS w bo v xs) (hb : Below w.heap.size w w1) : OS w1 bo v xs := Kd.S_below h hb
theorem OS.far {w w1 : World} {bo g : Nat} {v : Value} {xs : List (List Int)} (h : OS w bo v xs) (hg : w.grownBy w1 (some g)) (hlt : g < bo) : OS w1 bo v xs :=
  Kd.S_mono (Kd.S_grown (Kd.S_bound h) hg (fun k hk e => by injection e with e; have := hk.2.1; omega)) (fun _ _ => trivial)
theorem OS.at_ {w : World} {bo g n c : Nat} {xs : List (List Int)} (h : OS w bo (.slice (some ⟨g, 0, none⟩) n c) xs) (s : Nat) (hs : s < xs.length) : ∃ A0 c0, w.cell? ⟨g, s, none⟩ = some (.slice A0 (xs.getD s []).length c0) ∧ (xs.getD s []).length ≤ c0 ∧ Kd.C kI w A0 (xs.getD s []).length (xs.getD s []) := by
  obtain ⟨h1, _, hC⟩ := Kd.S_reads' h
  obtain ⟨ad, A0, c0, e, h2, h3, h4⟩ := at_L3 hC (s : Int) (by omega) (by omega)
  obtain rfl := Option.some.inj e
  rw [Int.toNat_natCast, Addr.add_mid, Nat.zero_add] at h2
  exact ⟨A0, c0, h2, h3, h4⟩
theorem OS.ne {w : World} {bo g : Nat} {v : Value} {xs : List (List Int)} (h : OS w bo v xs) (hlt : g < bo) : v.ownBlock ≠ some g := fun e => by
  have := Kd.S_base h g e
  omega
/-- an insertion -/
def insF (row : List Int) (i : Nat) (y : Int) : Option (List Int) := if i ≤ row.length then some (row.take i ++ [y] ++ row.drop i) else none
theorem insert_calls (W : World) (base : Nat) (v : Value) (s : List Int) (i : Nat) (lb : Nat) (y : Int) (r : List Int) (h : W.ownsRow base 3 1 v s.length (nums .i64 s)) (hb : base ≤ W.heap.size) (hl : ReadsInt W .i64 (some ⟨lb, 0, none⟩) 1 [y]) (hlh : W.heap[lb]? = some (.cells #[.int .i64 y] 3 (0, 0))) (hlg : 0 < s.length → v.ownBlock ≠ some lb) (hs : s.length ≤ 10000) (hr : insF s i y = some r) :
    Calls Try.prog 41 #[v, .int .i64 (i : Int), .slice (some ⟨lb, 0, none⟩) 1 1] W fun e w' => ∃ v1, e = .returned v1 ∧ Inserted W w' base v v1 r := by
  unfold insF at hr
  by_cases hi : i ≤ s.length
  · rw [if_pos hi] at hr
    obtain rfl := Option.some.inj hr
    by_cases hi2 : i = s.length
    · subst hi2
      rw [List.take_length, List.drop_length, List.append_nil]
      exact insert_end W base v s lb y h hb hl hs
    · exact insert_mid W base v s i lb y h (by omega) hb hlh (hlg (by omega)) hs
  · rw [if_neg hi] at hr
    cases hr
/-- who hangs on it comes no sooner -/
def upd (s : Int) (row : List Bool) (next : List Int) : Nat → List Int
  | 0 => next
  | k + 1 => if row.getD k false then (upd s row next k).set k (mx ((upd s row next k).getD k 0) s) else upd s row next k
theorem upd_len (s : Int) (row : List Bool) (next : List Int) : ∀ k, (upd s row next k).length = next.length
  | 0 => rfl
  | k + 1 => by
    have ih := upd_len s row next k
    unfold upd
    split
    · rw [List.length_set]; exact ih
    · exact ih
/-- the steps as far as step s -/
def upto (out : List (List Int)) (s : Nat) : List (List Int) := if s = out.length then out ++ [[]] else out
def normStep (K : Nat) (dep : List (List Bool)) (next : List Int) (out : List (List Int)) (a : Nat) : Option (List Int × List (List Int)) :=
  if 0 ≤ next.getD a 0 ∧ next.getD a 0 ≤ out.length ∧ out.length ≤ 1000 then
    (slices_BinarySearch_int_int.f K ((upto out (next.getD a 0).toNat).getD (next.getD a 0).toNat []) a).bind fun x =>
      if 0 ≤ x.1 ∧ ((upto out (next.getD a 0).toNat).getD (next.getD a 0).toNat []).length ≤ 10000 then
        (insF ((upto out (next.getD a 0).toNat).getD (next.getD a 0).toNat []) x.1.toNat a).bind fun row =>
          if (dep.getD a []).length ≤ next.length then some (upd (wrap64 (next.getD a 0 + 1)) (dep.getD a []) next (dep.getD a []).length, (upto out (next.getD a 0).toNat).set (next.getD a 0).toNat row) else none
      else none
  else none
def normL (K : Nat) (dep : List (List Bool)) : List Int → List Int → List (List Int) → Option (List (List Int))
  | [], _, out => some out
  | a :: l, next, out => if 0 ≤ a ∧ a < dep.length then (normStep K dep next out a.toNat).bind fun x => normL K dep l x.1 x.2 else none
/-- what Normal tells -/
def normF (K : Nat) (l : List Int) (dep : List (List Bool)) : Option (List (List Int) × Int) :=
  (checkF K l dep).bind fun e => if e = 0 then (if 0 < dep.length ∧ dep.length ≤ 12 ∧ l.length ≤ 200 then (normL K dep l (List.replicate dep.length 0) []).bind fun r => some (r, 0) else none) else some ([], e)

set_option maxHeartbeats 32000000 in
set_option maxRecDepth 100000 in
theorem normal_calls (K : Nat) (w : World) (A : Option Addr) (c : Nat) (l : List Int) (A2 : Option Addr) (c2 : Nat) (dep : List (List Bool)) (r : List (List Int)) (e : Int) (hr : Kd.C kI w A l.length l) (hc : l.length ≤ c) (hr2 : Kd.C kB w A2 dep.length dep) (hc2 : dep.length ≤ c2) (h : normF K l dep = some (r, e)) :
    Calls Try.prog 20 #[.slice A l.length c, .slice A2 dep.length c2] w fun en w' => ∃ v, en = .returned (.tuple #[v, .int .i64 e]) ∧ OS w' w.heap.size v r ∧ Below w.heap.size w w' := by
  have HR := Aside0.mk hr
  have HR2 := Aside0.mk hr2
  unfold normF at h
  obtain ⟨e0, he0, h⟩ := Option.bind_eq_some_iff.1 h
  have HE := Aside0.mk (check_calls K w A c l A2 c2 dep e0 hr hc hr2 hc2 he0)
  clear hr hr2 he0
  by_cases hz : e0 = 0
  · subst hz
    rw [if_pos rfl] at h
    by_cases hd : 0 < dep.length ∧ dep.length ≤ 12 ∧ l.length ≤ 200
    · rw [if_pos hd] at h
      obtain ⟨rr, hrr, h⟩ := Option.bind_eq_some_iff.1 h
      obtain ⟨rfl, rfl⟩ := Prod.mk.inj (Option.some.inj h)
      obtain ⟨hd0, hd12, hl200⟩ := hd
      have HN := Aside0.mk hrr
      clear h hrr
      obtain ⟨N, hN⟩ : ∃ N, N = dep.length := ⟨_, rfl⟩
      have HNL := Aside0.mk hN
      rw [← hN] at hd0 hd12 hc2 HE HN ⊢
      clear hN
      have hN0 : (0 : Int) ≤ (N : Int) := by omega
      have hN1 : ¬ ((N : Int) < 0) := by omega
      go_enter Try.func20, Try.ntmps20
      go_wp2_with fail
      refine HE.out.mono ?_
      rintro en w1 ⟨rfl, hb⟩
      have HB := Aside0.mk hb
      clear hb HE
      go_wp2_with (first
        | ((with_reducible refine gate_dst (N := 24) rfl ?_); refine Kd.R_make kI (w0 := w) w.heap.size 3 rfl (N := 24) rfl 23 _ _ rfl (N : Int) rfl rfl Try.underlying23 (.int .i64 0) 8 infoInt rfl (by decide) (by omega) 0 (ok := fun _ => True) (okp := fun _ => True) rfl (fun _ hk => hk) trivial (by omega) (by omega) HB.out HB.out.size ?_; intro v4 w4 hO4 hb hg_ hnew_; have HO4 := Aside0.mk hO4; have HB4 := Aside0.mk hb; clear hO4 hb hg_ hnew_)
        | fail)
      have hrep : (List.replicate ((N : Int)).toNat (0 : Int)) = List.replicate N 0 := by rw [Int.toNat_natCast]
      have hO4 := HO4.out
      rw [hrep] at hO4
      obtain ⟨gN, cN, rfl, hIR⟩ := R_form hO4 (by rw [List.length_replicate]; exact hd0)
      rw [List.length_replicate] at hIR ⊢
      have hNc : N ≤ cN := (Kd.R_reads' hIR).2.1
      obtain ⟨bo, hbo⟩ : ∃ bo, bo = w4.heap.size := ⟨_, rfl⟩
      have HBO := Aside0.mk (show gN < bo ∧ w.heap.size ≤ bo by rw [hbo]; exact ⟨Kd.R_lt hIR gN rfl, HB4.out.size⟩)
      have HBS := Aside0.mk (show bo ≤ w4.heap.size by rw [hbo]; exact Nat.le_refl _)
      have HGB := Aside0.mk hIR.base
      have HIR := Aside0.mk hIR
      have HN0 := Aside0.mk (show normL K dep (l.drop 0) (List.replicate N 0) [] = some rr by exact HN.out)
      clear hO4 HO4 hrep hIR hbo HB HN
      go_loopw [8, 27] (fun v8 v27 wr => ∃ (i : Nat) (next : List Int) (out : List (List Int)), v27 = .int .i64 (i : Int) ∧ i ≤ l.length ∧ Aside0 (next.length = N) ∧ Aside0 (normL K dep (l.drop i) next out = some rr) ∧ Aside0 (IR wr w.heap.size gN N cN next) ∧ Aside0 (OS wr bo v8 out) ∧ Aside0 (Below w.heap.size w wr) ∧ Aside0 (bo ≤ wr.heap.size)) (fun _ v27 _ => l.length - (intOf v27).toNat)
      case atStart => exact ⟨0, List.replicate N 0, [], rfl, Nat.zero_le _, ⟨List.length_replicate⟩, HN0, HIR, ⟨Kd.S_nil _ _ _ _ _⟩, HB4, HBS⟩
      case round =>
        clear HN0 HIR HB4 HBS
        obtain ⟨i, next, out, rfl, hi, HNX, HN, HIR, HO, HB, HBS⟩ := hrel
        by_cases hlt : i < l.length
        · have hlt1 : (i : Int) < (l.length : Int) := by omega
          obtain ⟨ad, rfl, hcl⟩ := C_cell (Kd.C_below HR.out HB.out) i hlt
          have H := HN.out
          rw [List.drop_eq_getElem_cons hlt] at H
          simp only [normL] at H
          obtain ⟨y, hy⟩ : ∃ y, y = l[i] := ⟨_, rfl⟩
          rw [← hy] at H hcl
          clear hy
          by_cases hya : 0 ≤ y ∧ y < (dep.length : Int)
          · rw [if_pos hya] at H
            rw [← HNL.out] at hya
            obtain ⟨a, rfl⟩ : ∃ a : Nat, y = (a : Int) := ⟨y.toNat, by omega⟩
            rw [Int.toNat_natCast] at H
            have haN : a < N := by omega
            have haN1 : (a : Int) < (N : Int) := by omega
            obtain ⟨x, hx, H⟩ := Option.bind_eq_some_iff.1 H
            have HREST := Aside0.mk H
            unfold normStep at hx
            by_cases hcond : 0 ≤ next.getD a 0 ∧ next.getD a 0 ≤ (out.length : Int) ∧ out.length ≤ 1000
            · rw [if_pos hcond] at hx
              obtain ⟨hncell, hnfr⟩ := HIR.out.cell a (by rw [HNX.out]; exact haN)
              have hng : next.getD a 0 = next[a]'(by rw [HNX.out]; exact haN) := getD_is _
              rw [← hng] at hncell
              obtain ⟨sI, hsI⟩ : ∃ sI, sI = next.getD a 0 := ⟨_, rfl⟩
              rw [← hsI] at hx hcond hncell
              clear hng hsI hya H
              obtain ⟨s, rfl⟩ : ∃ s : Nat, sI = (s : Int) := ⟨sI.toNat, by omega⟩
              rw [Int.toNat_natCast] at hx
              have hso : s ≤ out.length := by omega
              have hol : out.length ≤ 1000 := hcond.2.2
              clear hcond
              obtain ⟨y2, hy2, hx⟩ := Option.bind_eq_some_iff.1 hx
              obtain ⟨pos, fnd⟩ := y2
              by_cases hpos : 0 ≤ pos ∧ ((upto out s).getD s []).length ≤ 10000
              · rw [if_pos hpos] at hx
                obtain ⟨q, rfl⟩ : ∃ q : Nat, pos = (q : Int) := ⟨pos.toNat, by omega⟩
                rw [Int.toNat_natCast] at hx
                obtain ⟨row, hrow, hx⟩ := Option.bind_eq_some_iff.1 hx
                by_cases hdl : (dep.getD a []).length ≤ next.length
                · rw [if_pos hdl] at hx
                  obtain rfl := Option.some.inj hx
                  have HBSX := Aside0.mk hy2
                  have HROW := Aside0.mk hrow
                  have HDL := Aside0.mk (show (dep.getD a []).length ≤ N by rw [← HNX.out]; exact hdl)
                  have HPL := Aside0.mk hpos.2
                  clear hx hy2 hrow hdl hpos HN
                  obtain ⟨out1, hout1⟩ : ∃ out1, out1 = upto out s := ⟨_, rfl⟩
                  obtain ⟨rw0, hrw0⟩ : ∃ rw0, rw0 = out1.getD s [] := ⟨_, rfl⟩
                  rw [← hout1, ← hrw0] at HBSX HROW HPL
                  rw [← hout1] at HREST
                  have HRW := Aside0.mk hrw0
                  have HUP := Aside0.mk hout1
                  have HOL := Aside0.mk hol
                  obtain ⟨sv, hsv⟩ : ∃ sv, sv = wrap64 ((s : Int) + 1) := ⟨_, rfl⟩
                  have hws : IntKind.i64.wrap ((s : Int) + 1) = sv := by rw [hsv]; exact wrapW _
                  rw [← hsv] at HREST
                  obtain ⟨ad2, A3, c3, hA2, hdw, hc3, hCw⟩ := at_L2 HR2.out (a : Int) (by omega) (by have := HNL.out; omega)
                  subst hA2
                  have hrdd : rd_L2 dep (a : Int) = dep.getD a [] := rfl
                  rw [hrdd] at hdw hc3 hCw
                  rw [Int.toNat_natCast] at hdw
                  obtain ⟨drow, hdr⟩ : ∃ drow, drow = dep.getD a [] := ⟨_, rfl⟩
                  rw [← hdr] at HREST HDL hdw hc3 hCw
                  have HDR := Aside0.mk hdr
                  have HDW := Aside0.mk hdw
                  have HCW := Aside0.mk hCw
                  clear hdr hrdd hdw hCw
                  clear hsv hrw0
                  by_cases hse : s = out.length
                  case' pos =>
                    obtain ⟨A8, d8, rfl, hd8, -⟩ := Kd.S_reads HO.out
                    rw [← hse] at hd8 HO ⊢
                    obtain ⟨M8, hM8⟩ : ∃ M8, M8 = (out ++ [[]]).length := ⟨_, rfl⟩
                    have HO1 := Aside0.mk (show out1 = out ++ [[]] by rw [hout1]; unfold upto; rw [if_pos hse])
                    have hsM : s < M8 := by rw [hM8, List.length_append]; simp; omega
                    have HM8 := Aside0.mk (show M8 = out1.length by rw [HO1.out]; exact hM8)
                    have HM80 := Aside0.mk hM8
                    have HSE := Aside0.mk hse
                    clear hM8 hout1 hse hol
                    go_wp2_with (first
                      | (at_builtin; refine Kd.S_append kR (w0 := wr) bo rfl _ _ 24 23 (.slice none 0 0) 24 rfl Try.underlying24 info23z rfl (by decide) (by omega) _ out [] [.slice none 0 0] (fun _ => True) (fun _ => False) rfl rfl ⟨_, rfl, Kd.R_nil _ _ _ _ _⟩ (fun _ h => h.elim) (fun _ _ => trivial) (Kd.S_mono HO.out (fun _ hk => ⟨hk, fun h => h⟩)) (Below.refl _ _) HBS.out (by have := HOL.out; omega) ?_; intro v1 w5 hS hb hg hat; have HB5 := Aside0.mk (Below.trans HB.out (Below.mono hb HBO.out.2)); have HIR5 := Aside0.mk (HIR.out.far hg (OS.ne HO.out HBO.out.1)); have HBS5 := Aside0.mk (Nat.le_trans HBS.out hb.size); obtain ⟨g8, e8, rfl, hg8⟩ := Kd.S_form hS (by simp); rw [← HM80.out] at hS ⊢; rw [← HO1.out] at hS; have HO5 := Aside0.mk hS; obtain ⟨A0, c0, hcell0, hc0, hC0⟩ := OS.at_ hS s (by have := HM8.out; omega); rw [← HRW.out] at hcell0 hc0 hC0; have HC0 := Aside0.mk hC0; clear hS hb hg hat hg8 hC0)
                      | fail)
                  case' neg =>
                    have hse1 : ¬ ((s : Int) = (out.length : Int)) := by omega
                    obtain ⟨g8, e8, rfl, hg8⟩ := Kd.S_form HO.out (by omega)
                    obtain ⟨M8, hM8⟩ : ∃ M8, M8 = out.length := ⟨_, rfl⟩
                    have HO1 := Aside0.mk (show out1 = out by rw [hout1]; unfold upto; rw [if_neg hse])
                    have hsM : s < M8 := by rw [hM8]; omega
                    have HM8 := Aside0.mk (show M8 = out1.length by rw [HO1.out]; exact hM8)
                    rw [← hM8] at HO hse hse1 ⊢
                    have hS := HO.out
                    rw [← HO1.out] at hS
                    have HO5 := Aside0.mk hS
                    obtain ⟨A0, c0, hcell0, hc0, hC0⟩ := OS.at_ hS s (by have := HM8.out; omega)
                    rw [← HRW.out] at hcell0 hc0 hC0
                    have HC0 := Aside0.mk hC0
                    have HB5 := HB
                    have HIR5 := HIR
                    have HBS5 := HBS
                    have hsM1 : (s : Int) < (M8 : Int) := by omega
                    clear hM8 hout1 hS hg8 hC0
                    go_wp2_with fail
                  all_goals
                    have hsM1 : (s : Int) < (M8 : Int) := by omega
                    refine (slices_BinarySearch_int_int.calls K A0 c0 rw0 (a : Int) (q : Int) fnd _ HC0.out hc0 HBSX.out).mono ?_
                    rintro en w6 ⟨rfl, hd⟩
                    have hcell6 := (hd.below.cell (World.block_lt_of_cell? _ _ hcell0)).trans hcell0
                    have HO6 := Aside0.mk (OS.below HO5.out hd.below)
                    have HIR6 := Aside0.mk (HIR5.out.below hd.below)
                    have HB6 := Aside0.mk (below_then HB5.out HB5.out.size hd.below)
                    have HBS6 := Aside0.mk (Nat.le_trans HBS5.out hd.below.size)
                    have HLB := Aside0.mk (show 0 < rw0.length → (Value.slice A0 rw0.length c0).ownBlock ≠ some w6.heap.size from fun hp e => by
                      obtain ⟨ad, e1, h1⟩ := C_cell (Kd.C_below HC0.out hd.below) 0 hp
                      have h2 : ad.block < w6.heap.size := World.block_lt_of_cell? w6 _ h1
                      rw [e1] at e
                      have h3 : ad.block = w6.heap.size := Option.some.inj e
                      omega)
                    have hba := below_alloc (Below.refl w6.heap.size w6) (.cells #[Value.int .i64 (a : Int)] 3)
                    have hcell7 := (hba.cell (World.block_lt_of_cell? _ _ hcell6)).trans hcell6
                    obtain ⟨oki, cc, hccl, hM, hcc, hfr, hoki, hH⟩ := Kd.S_elem (OS.below HO6.out hba) [] (s : Int) (by omega) (by omega)
                    rw [Int.toNat_natCast, ← HRW.out] at hM
                    obtain ⟨vr, rfl, hRr⟩ := hM
                    have hvr : vr = .slice A0 rw0.length c0 := by
                      have h1 := hcc 0 vr rfl
                      rw [Int.toNat_natCast, show s * kR.sz + 0 = s from Nat.mul_one s, hcell7] at h1
                      exact (Option.some.inj h1).symm
                    subst hvr
                    have HIN := Aside0.mk (insert_calls _ bo _ rw0 q w6.heap.size (a : Int) row (Kd.own_of_R hRr) (Nat.le_trans HBS6.out hba.size) (reads_lit w6 [(a : Int)] (by simp) 3) (heap_alloc_new w6 _) HLB.out HPL.out HROW.out)
                    have HH := Aside0.mk hH
                    have HOKI := Aside0.mk hoki
                    have HRR := Aside0.mk hRr
                    have HIR7 := Aside0.mk (HIR6.out.below hba)
                    have HB7 := Aside0.mk (below_then HB6.out HB6.out.size hba)
                    have HBS7 := Aside0.mk (Nat.le_trans HBS6.out hba.size)
                    have HFR := Aside0.mk hfr
                    have HC7 := Aside0.mk hcell7
                    clear hcell0 hc0 HC0 HO5 HIR5 HB5 HBS5 HO6 HIR6 HB6 HBS6 hba hcc hccl hfr hoki hH hRr hd hcell7
                    go_wp2_with fail
                    refine HIN.out.mono ?_
                    rintro en w8 ⟨v1, rfl, hown, hg, hat⟩
                    obtain ⟨A9, c9, rfl, hc9, -⟩ := own_rd hown
                    have hvb := HRR.out.1
                    have hH8 := Kd.H_grown (Kd.H_widen HH.out) hg (fun k hk => .inl (hvb k hk))
                    have hne : some g8 ≠ (Value.slice A0 rw0.length c0).ownBlock := fun e => (HOKI.out g8 (hvb g8 e.symm)).2 rfl
                    have hblk := hg.block g8 (World.block_lt_of_cell? _ _ HC7.out) hne
                    have hcell8 : w8.cell? ⟨g8, s, none⟩ = some (.slice A0 rw0.length c0) := (World.cell?_of_block hblk).trans HC7.out
                    have hfr8 : w8.frozen? ⟨g8, s, none⟩ = false := (World.frozen?_of_block hblk).trans (by
                      have h := HFR.out 0
                      rwa [Int.toNat_natCast, show s * kR.sz + 0 = s from Nat.mul_one s] at h)
                    have hS9 := Kd.S_seg0 hH8 (show (0 : Int) ≤ (s : Int) by omega) hsM1 (seg := [Value.slice A9 row.length c9]) (j := 0) (Nat.le_refl 1) (x' := row) (okp := fun k => some k = (Value.slice A9 row.length c9).ownBlock) ⟨_, rfl, Kd.R_tight rfl (R_int hown)⟩ (fun k hk => by
                      rcases hat with e | ⟨b, e, hle⟩
                      · exact .inl (hvb k (by rw [← e]; exact hk.symm))
                      · refine .inr ⟨trivial, ?_⟩
                        rw [e] at hk
                        injection hk with hk
                        omega)
                    rw [Int.toNat_natCast, show s * kR.sz + 0 = s from Nat.mul_one s] at hS9
                    have HS9 := Aside0.mk (show OS (w8.setCell ⟨g8, s, none⟩ (.slice A9 row.length c9)) bo (.slice (some ⟨g8, 0, none⟩) M8 e8) (out1.set s row) ∧ w8.grownBy (w8.setCell ⟨g8, s, none⟩ (.slice A9 row.length c9)) (some g8) from hS9)
                    have hbg8 : bo ≤ g8 := Kd.S_base HS9.out.1 g8 rfl
                    have hIR8 := HIR7.out.far hg (fun e => by have := Kd.R_base HRR.out gN e; have := HBO.out.1; omega)
                    have HIR9 := Aside0.mk (hIR8.far HS9.out.2 (fun e => by injection e with e; have := HBO.out.1; omega))
                    have hB8 := Below.grown HB7.out hg HB7.out.size (fun k hk => Nat.le_trans HBO.out.2 (Kd.R_base HRR.out k hk))
                    have HB9 := Aside0.mk (Below.grown hB8 HS9.out.2 hB8.size (fun k hk => by cases hk; exact Nat.le_trans HBO.out.2 hbg8))
                    have HBS9 := Aside0.mk (Nat.le_trans HBS7.out (Nat.le_trans hg.size HS9.out.2.size))
                    have hdc := (HB9.out.cell (World.block_lt_of_cell? w _ HDW.out)).trans HDW.out
                    have hdl12 : drow.length ≤ 12 := by have := HDL.out; omega
                    clear hown hg hat hvb hH8 hne hblk hS9 hIR8 hB8 HIN HH HOKI HRR HIR7 HB7 HBS7 HFR HC7 hcell6
                    go_wp2_with fail
                    generalize (w8.setCell ⟨g8, s, none⟩ (.slice A9 row.length c9)) = w9 at HS9 HIR9 HB9 HBS9 hdc ⊢
                    have HS10 := Aside0.mk HS9.out.1
                    clear hdc HS9 hcell8 hfr8
                    go_loopw [67] (fun v67 wq => ∃ k : Nat, v67 = .int .i64 (k : Int) ∧ k ≤ drow.length ∧ Aside0 (IR wq w.heap.size gN N cN (upd sv drow next k)) ∧ Aside0 (OS wq bo (.slice (some ⟨g8, 0, none⟩) M8 e8) (out1.set s row)) ∧ Aside0 (w9.grownBy wq (some gN))) (fun v67 _ => drow.length - (intOf v67).toNat)
                    case atStart => exact ⟨0, rfl, Nat.zero_le _, HIR9, HS10, ⟨gb_below _ (Below.refl _ _)⟩⟩
                    case round =>
                      clear HIR9 HS10
                      obtain ⟨k, rfl, hk, HI, HS, HG⟩ := hrel
                      have HBq := Aside0.mk (Below.grown HB9.out HG.out HB9.out.size (fun k hk => by cases hk; exact HGB.out))
                      have HBSq := Aside0.mk (Nat.le_trans HBS9.out HG.out.size)
                      by_cases hkl : k < drow.length
                      · have hkl1 : (k : Int) < (drow.length : Int) := by omega
                        have hkN : k < N := by have := HDL.out; omega
                        have hkN1 : (k : Int) < (N : Int) := by omega
                        obtain ⟨ad3, e3, hbc⟩ := Kd.at_bool (Kd.C_below HCW.out HBq.out) (k : Int) (by omega) (by omega)
                        subst e3
                        rw [Int.toNat_natCast] at hbc
                        have hul : k < (upd sv drow next k).length := by rw [upd_len, HNX.out]; exact hkN
                        obtain ⟨hnc, hnf⟩ := HI.out.cell k hul
                        have HUD := Aside0.mk (show upd sv drow next (k + 1) = if rdOf false drow (k : Int) then (upd sv drow next k).set k (mx ((upd sv drow next k)[k]) sv) else upd sv drow next k by
                          rw [← getD_is hul]
                          show (if drow.getD k false then _ else _) = _
                          simp [rdOf])
                        generalize rdOf false drow (k : Int) = bb at hbc HUD
                        generalize (upd sv drow next k)[k] = nk at hnc HUD
                        cases bb with
                        | false =>
                          have HI2 := Aside0.mk (show IR wr w.heap.size gN N cN (upd sv drow next (k + 1)) by rw [HUD.out, if_neg (by decide)]; exact HI.out)
                          go_wp2
                          go_roundw
                          case rel => exact ⟨k + 1, by go_num, hkl, HI2, HS, HG⟩
                          case measure => simp [intOf]; omega
                        | true =>
                          obtain ⟨u, hu⟩ : ∃ u, u = mx nk sv := ⟨_, rfl⟩
                          have HP := HI.out.put k u
                          have HI2 := Aside0.mk (show IR (wr.setCell ⟨gN, k, none⟩ (.int .i64 u)) w.heap.size gN N cN (upd sv drow next (k + 1)) by rw [HUD.out, if_pos rfl, ← hu]; exact HP.1)
                          have HS2 := Aside0.mk (OS.far HS.out HP.2 HBO.out.1)
                          have HG2 := Aside0.mk (gb_trans HG.out HP.2)
                          have hu2 : (if nk < sv then sv else nk) = u := hu.symm
                          clear hu HP
                          go_wp2
                          go_roundw
                          case rel => exact ⟨k + 1, by go_num, hkl, HI2, HS2, HG2⟩
                          case measure => simp [intOf]; omega
                      · have hke : drow.length ≤ k := by omega
                        have HKE := Aside0.mk (show k = drow.length by omega)
                        go_wp2
                        go_roundw
                        case rel => exact ⟨i + 1, upd sv drow next drow.length, out1.set s row, by go_num, hlt, ⟨by rw [upd_len]; exact HNX.out⟩, HREST, ⟨by have h := HI.out; rwa [HKE.out] at h⟩, HS, HBq, HBSq⟩
                        case measure => simp [intOf]; omega
                · rw [if_neg hdl] at hx
                  cases hx
              · rw [if_neg hpos] at hx
                cases hx
            · rw [if_neg hcond] at hx
              cases hx
          · rw [if_neg hya] at H
            cases H
        · have HE2 := Aside0.mk (show out = rr by
            have h := HN.out
            rw [List.drop_eq_nil_of_le (by omega)] at h
            simpa [normL] using h)
          have hle : l.length ≤ i := by omega
          go_wp2
          exact bodyPost_ret (v := .tuple #[u8, .int .i64 0]) (by simp [results, Try.f20, go_sem]) rfl ⟨_, rfl, by rw [← HE2.out]; exact Kd.S_lower HO.out HBO.out.2, HB.out⟩
    · rw [if_neg hd] at h
      cases h
  · rw [if_neg hz] at h
    obtain ⟨rfl, rfl⟩ := Prod.mk.inj (Option.some.inj h)
    clear h
    go_enter Try.func20, Try.ntmps20
    go_wp2_with fail
    refine HE.out.mono ?_
    rintro en w1 ⟨rfl, hb⟩
    have HB := Aside0.mk hb
    clear hb
    go_wp2
    exact bodyPost_ret (v := .tuple #[.slice none 0 0, .int .i64 e0]) (by simp [results, Try.f20, go_sem]) rfl ⟨_, rfl, Kd.S_nil _ _ _ _ _, HB.out⟩
end Go.Proofs.Ytblalidpeccabac.Sd
