/- lockup.Ring: its walk. -/
import Derived.Test.YtlgkcjkicankmaaLockB
namespace Go.Proofs.Ytlgkcjkicankmaa.Lk
open Go Go.RowKit Go.Lib Go.Maps Go.Proofs.YtlgkcjkicankmaaW.PrintWords Go.Proofs.YtlgkcjkicankmaaW.PrintLast Go.Proofs.YtlgkcjkicankmaaW.PrintMore Go.Proofs.Ytlgkcjkicankmaa.PLockupEither Go.Proofs.Ytlgkcjkicankmaa.Bs
set_option linter.unusedVariables false
set_option linter.unusedSimpArgs false

structure S30 where
  f0 : Int
  f1 : Int
  f2 : Int
def z30 : S30 := ⟨(0 : Int), (0 : Int), (0 : Int)⟩
def k30 : Kd S30 := Kd.iso (Kd.pair (Kd.int .i64) (Kd.pair (Kd.int .i64) (Kd.int .i64))) (fun x : S30 => (x.f0, x.f1, x.f2))
theorem k30_open {w : World} {x : S30} {cs : List Value} (h : k30.K w x cs) : cs = [.int .i64 x.f0, .int .i64 x.f1, .int .i64 x.f2] := by
  obtain ⟨_, _, rfl, rfl, ⟨_, _, rfl, rfl, rfl⟩⟩ := h
  exact rfl
theorem at30 {w : World} {A : Option Addr} {n : Nat} {xs : List S30} (h : Kd.C k30 w A n xs) (i : Nat) (hi : i < xs.length) : ∃ ad, A = some ad ∧ w.cell? (ad.add (i * 3)) = some (.int .i64 xs[i].f0) ∧ w.cell? ⟨(ad.add (i * 3)).block, (ad.add (i * 3)).off + 1, none⟩ = some (.int .i64 xs[i].f1) ∧ w.cell? ⟨(ad.add (i * 3)).block, (ad.add (i * 3)).off + 2, none⟩ = some (.int .i64 xs[i].f2) := by
  obtain ⟨ad, c, e, _, hK, hc0⟩ := Kd.C_get h z30 (i : Int) (by omega) (by have := h.1; omega)
  rw [Int.toNat_natCast, show xs.getD i z30 = xs[i] by simp [List.getD_eq_getElem?_getD, hi]] at hK
  rw [Int.toNat_natCast] at hc0
  have hc : ∀ j u, c[j]? = some u → w.cell? (ad.add (i * 3 + j)) = some u := hc0
  obtain rfl := k30_open hK
  exact ⟨ad, e, hc 0 _ rfl, by rw [← add_field _ _ 1 (by omega)]; exact hc 1 _ rfl, by rw [← add_field _ _ 2 (by omega)]; exact hc 2 _ rfl⟩

theorem index_l0 (l : List Int) (n : Int) (hb : l.length ≤ 100000) : ∀ (j i f : Nat), i + j = l.length → ∃ p : Int, slices_Index_int_int.l0 (f + j + 1) l n (l.length : Int) (i : Int) = some p ∧ (0 ≤ p ↔ n ∈ l.drop i) ∧ (0 ≤ p → ∃ q : Nat, p = (q : Int) ∧ q < l.length ∧ l.getD q 0 = n ∧ ∀ j, i ≤ j → j < q → l.getD j 0 ≠ n) ∧ (p < 0 → p = -1)
  | 0, i, f, h => by
    refine ⟨-1, ?_, ?_, fun h => by omega, fun _ => rfl⟩
    · show slices_Index_int_int.l0 (f + 1) _ _ _ _ = _
      rw [slices_Index_int_int.l0, if_neg (by omega)]
    · rw [List.drop_eq_nil_of_le (by omega)]
      exact ⟨fun h => absurd h (by decide), fun h => by cases h⟩
  | j + 1, i, f, h => by
    have hi : i < l.length := by omega
    have e1 : rd l (i : Int) = l[i] := by simp [rd, List.getD_eq_getElem?_getD, hi]
    have e2 : l.getD i 0 = l[i] := by simp [List.getD_eq_getElem?_getD, hi]
    rw [show f + (j + 1) + 1 = f + j + 1 + 1 by omega, slices_Index_int_int.l0, if_pos (by omega), if_pos (by omega), if_pos (by omega), e1, List.drop_eq_getElem_cons hi]
    by_cases he : n = l[i]
    · rw [if_pos he]
      exact ⟨(i : Int), rfl, ⟨fun _ => by rw [he]; exact List.mem_cons_self, fun _ => by omega⟩, fun _ => ⟨i, rfl, hi, by rw [e2, he], fun j h1 h2 => by omega⟩, fun h => by omega⟩
    · rw [if_neg he, show wrap64 ((i : Int) + 1) = ((i + 1 : Nat) : Int) by unfold wrap64; omega]
      obtain ⟨p, h1, h2, h3, h4⟩ := index_l0 l n hb j (i + 1) f (by omega)
      refine ⟨p, h1, ⟨fun hp => List.mem_cons_of_mem _ (h2.1 hp), fun hm => h2.2 (by
        rcases List.mem_cons.1 hm with h5 | h5
        · exact absurd h5 he
        · exact h5)⟩, fun hp => ?_, h4⟩
      obtain ⟨q, h5, h6, h7, h8⟩ := h3 hp
      refine ⟨q, h5, h6, h7, fun j h9 h10 => ?_⟩
      by_cases hji : j = i
      · rw [hji, e2]; exact fun e => he e.symm
      · exact h8 j (by omega) h10
theorem index_f (l : List Int) (n : Int) (hb : l.length ≤ 900) : ∃ p : Int, slices_Index_int_int.f 1000 l n = some p ∧ (0 ≤ p ↔ n ∈ l) ∧ (0 ≤ p → ∃ q : Nat, p = (q : Int) ∧ q < l.length ∧ l.getD q 0 = n ∧ ∀ j, j < q → l.getD j 0 ≠ n) ∧ (p < 0 → p = -1) := by
  obtain ⟨f, hf⟩ : ∃ f, 1000 = f + l.length + 1 := ⟨1000 - (l.length + 1), by omega⟩
  obtain ⟨p, h1, h2, h3, h4⟩ := index_l0 l n (by omega) l.length 0 f (by omega)
  rw [← hf] at h1
  refine ⟨p, h1, h2, fun hp => ?_, h4⟩
  obtain ⟨q, h5, h6, h7, h8⟩ := h3 hp
  exact ⟨q, h5, h6, h7, fun j hj => h8 j (Nat.zero_le _) hj⟩
theorem contains_f (l : List Int) (n : Int) (hb : l.length ≤ 900) : slices_Contains_int_int.f 1000 l n = some (decide (n ∈ l)) := by
  obtain ⟨p, h1, h2, _⟩ := index_f l n hb
  unfold slices_Contains_int_int.f
  rw [h1]
  dsimp only [Option.bind]
  exact congrArg some (decide_eq_decide.2 h2)
/-- a thread that may be -/
def thr (n : Int) : Bool := decide (0 ≤ n) && decide (n < 8)
theorem thread_calls (w : World) (n : Int) : Calls Try.prog 21 #[.int .i64 n] w fun e w' => e = .returned (.bool (thr n)) ∧ Drawn0 w w' := by
  refine lockup_thread.calls n (thr n) w ?_
  unfold lockup_thread.f thr
  by_cases h : n ≥ 0
  · rw [if_pos h, decide_eq_true (show 0 ≤ n from h), Bool.true_and]
  · rw [if_neg h, decide_eq_false (show ¬ 0 ≤ n from h), Bool.false_and]
theorem thr_w {n : Int} (h : thr n = true) : W64 n := by
  unfold thr at h
  simp at h
  unfold W64
  omega
/-- who waits for whom, put down one by one -/
def linkF : List S30 → List Int → (Int → Int) → Int × List Int × (Int → Int)
  | [], ks, f => (0, ks, f)
  | p :: l, ks, f => if (thr p.f0 && thr p.f1) = false then (1, ks, f) else if p.f0 ∈ ks then (6, ks, f) else linkF l (ks ++ [p.f0]) (upd f p.f0 p.f1)
/-- from x on, to t again? -/
def chase (ks : List Int) (f : Int → Int) (t : Int) : Nat → List Int → Int → Option (Option (List Int))
  | 0, _, _ => none
  | k + 1, ring, x => if x ∈ ks then (if f x = t then some (some ring) else if ring.length ≤ 500 then (if f x ∈ ring then some none else chase ks f t k (ring ++ [f x]) (f x)) else none) else some none
def tourF (K : Nat) (ks : List Int) (f : Int → Int) : Nat → Int → Option (Option (List Int))
  | 0, _ => some none
  | j + 1, t => (chase ks f t K [t] t).bind fun x => match x with
    | some r => some (some r)
    | none => tourF K ks f j (t + 1)
/-- what Ring tells -/
def ringF (K : Nat) (l : List S30) : Option (List Int × Bool × Int) :=
  if 8 < l.length then some ([], false, 2) else if (linkF l [] (fun _ => 0)).1 ≠ 0 then some ([], false, (linkF l [] (fun _ => 0)).1) else
    (tourF K (linkF l [] (fun _ => 0)).2.1 (linkF l [] (fun _ => 0)).2.2 8 0).map fun x => match x with
      | some r => (r, true, 0)
      | none => ([], false, 0)

set_option maxHeartbeats 16000000 in
set_option maxRecDepth 100000 in
theorem ring_calls (K : Nat) (w : World) (A : Option Addr) (c : Nat) (l : List S30) (r : List Int) (is : Bool) (e : Int) (hr : Kd.C k30 w A l.length l) (hc : l.length ≤ c) (h : ringF K l = some (r, is, e)) :
    Calls Try.prog 10 #[.slice A l.length c] w fun en w' => ∃ v, en = .returned (.tuple #[v, .bool is, .int .i64 e]) ∧ w'.ownsRow w.heap.size 3 1 v r.length (nums .i64 r) ∧ Below w.heap.size w w' := by
  have HR := Aside0.mk hr
  unfold ringF at h
  clear hr
  by_cases hl : 8 < l.length
  · rw [if_pos hl] at h
    simp only [Option.some.injEq, Prod.mk.injEq] at h
    obtain ⟨rfl, rfl, rfl⟩ := h
    have hl1 : (8 : Int) < (l.length : Int) := by omega
    go_enter Try.func10, Try.ntmps10
    go_wp2
    exact bodyPost_ret (v := .tuple #[.slice none 0 0, .bool false, .int .i64 2]) (by simp [results, Try.f10, go_sem]) rfl ⟨_, rfl, World.ownsRow_nil _ _ _ _, Below.refl _ _⟩
  · rw [if_neg hl] at h
    have hl2 : l.length ≤ 8 := by omega
    have hl1 : (l.length : Int) ≤ 8 := by omega
    obtain ⟨FN, hFN⟩ : ∃ FN, FN = linkF l [] (fun _ => 0) := ⟨_, rfl⟩
    rw [← hFN] at h
    have HG := Aside0.mk h
    have HF0 := Aside0.mk (show linkF (l.drop 0) [] (fun _ => 0) = FN from hFN.symm)
    clear h hFN
    have hmm := @run_makeMap Try.prog
    go_enter Try.func10, Try.ntmps10
    go_upto_region 4 with (fail)
    clear hmm
    have HM0 := Aside0.mk (MI.new w)
    have HB0 := Aside0.mk (below_alloc (Below.refl w.heap.size w) (.map #[] 0))
    have hsz : (w.alloc (.map #[] 0)).heap.size = w.heap.size + 1 := Array.size_push _
    obtain ⟨b, hb⟩ : ∃ b, b = w.heap.size := ⟨_, rfl⟩
    have HBE := Aside0.mk hb
    have HBO := Aside0.mk (show b < b + 1 ∧ w.heap.size ≤ b + 1 by rw [hb]; exact ⟨by omega, by omega⟩)
    have HSZ := Aside0.mk (show b + 1 ≤ (w.alloc (.map #[] 0)).heap.size by rw [hsz, hb]; exact Nat.le_refl _)
    rw [← hb] at HM0 ⊢
    generalize (w.alloc (.map #[] 0)) = W0 at HM0 HB0 HSZ ⊢
    clear hb hsz
    go_wp2_with fail
    go_loopw [20] (fun v20 wr => ∃ (i : Nat) (ks : List Int) (f : Int → Int), v20 = .int .i64 (i : Int) ∧ i ≤ l.length ∧ Aside0 (ks.length ≤ i) ∧ Aside0 (linkF (l.drop i) ks f = FN) ∧ Aside0 (MI wr b ks f) ∧ Aside0 (Below w.heap.size w wr) ∧ Aside0 (b + 1 ≤ wr.heap.size)) (fun v20 _ => l.length - (intOf v20).toNat)
    case atStart => exact ⟨0, [], _, rfl, Nat.zero_le _, ⟨Nat.zero_le _⟩, HF0, HM0, HB0, HSZ⟩
    case round =>
      clear HF0 HM0 HB0 HSZ
      obtain ⟨i, ks, f, rfl, hi, HKL, HF, HM, HB, HSZ⟩ := hrel
      by_cases hlt : i < l.length
      · have hlt1 : (i : Int) < (l.length : Int) := by omega
        obtain ⟨ad, rfl, h0, h1, h2⟩ := at30 (Kd.C_below HR.out HB.out) i hlt
        have H := HF.out
        rw [List.drop_eq_getElem_cons hlt] at H
        simp only [linkF] at H
        generalize l[i].f0 = x at h0 H
        generalize l[i].f1 = y at h1 H
        generalize l[i].f2 = z at h2
        have HH := Aside0.mk H
        clear H HF
        go_upto_region 7 with (fail)
        have hba := below_alloc (Below.refl wr.heap.size wr) (.cells #[Value.int .i64 x, Value.int .i64 y, Value.int .i64 z] 30)
        have n1 := heap_alloc_new wr (.cells #[Value.int .i64 x, Value.int .i64 y, Value.int .i64 z] 30)
        have HB1 := Aside0.mk (below_then HB.out HB.out.size hba)
        have HM1 := Aside0.mk (HM.out.below hba)
        have HSZ1 := Aside0.mk (Nat.le_trans HSZ.out hba.size)
        obtain ⟨g, hg⟩ : ∃ g, g = wr.heap.size := ⟨_, rfl⟩
        rw [← hg] at n1 ⊢
        have k0 := blk_cell n1 0
        simp only [List.getElem?_toArray, List.getElem?_cons_zero, List.getElem?_cons_succ] at k0
        generalize (wr.alloc (.cells #[Value.int .i64 x, Value.int .i64 y, Value.int .i64 z] 30)) = W1 at n1 k0 HB1 HM1 HSZ1 ⊢
        have HK1 := Aside0.mk n1
        clear h0 h1 h2 hba n1 hg HB HM HSZ
        go_wp2_with fail
        refine (thread_calls _ x).mono ?_
        rintro en w2 ⟨rfl, hd⟩
        have hb := hd.below
        have hk2 := blk_below HK1.out hb
        have HK2 := Aside0.mk hk2
        have HB2 := Aside0.mk (below_then HB1.out HB1.out.size hb)
        have HM2 := Aside0.mk (HM1.out.below hb)
        have HSZ2 := Aside0.mk (Nat.le_trans HSZ1.out hb.size)
        clear hb hd k0 HK1 HB1 HM1 HSZ1
        have k0 := blk_cell hk2 0
        have k1 := blk_cell hk2 1
        simp only [List.getElem?_toArray, List.getElem?_cons_zero, List.getElem?_cons_succ] at k0 k1
        clear hk2
        cases hx : thr x with
        | false =>
          have HE := Aside0.mk (show r = [] ∧ is = false ∧ e = 1 by
            have h1 := HH.out
            rw [hx, Bool.false_and, if_pos rfl] at h1
            have h2 := HG.out
            rw [← h1] at h2
            rw [if_pos (show (1 : Int) ≠ 0 by decide)] at h2
            simp only [Option.some.injEq, Prod.mk.injEq] at h2
            exact ⟨h2.1.symm, h2.2.1.symm, h2.2.2.symm⟩)
          obtain ⟨rfl, rfl, rfl⟩ := HE.out
          clear hx HH HG HE
          go_wp2
          exact bodyPost_ret (v := .tuple #[.slice none 0 0, .bool false, .int .i64 1]) (by simp [results, Try.f10, go_sem]) rfl ⟨_, rfl, World.ownsRow_nil _ _ _ _, HB2.out⟩
        | true =>
          have HX := Aside0.mk hx
          clear hx
          go_wp2_with fail
          refine (thread_calls _ y).mono ?_
          rintro en w3 ⟨rfl, hd⟩
          have hb := hd.below
          have hk3 := blk_below HK2.out hb
          have HK3 := Aside0.mk hk3
          have HB3 := Aside0.mk (below_then HB2.out HB2.out.size hb)
          have HM3 := Aside0.mk (HM2.out.below hb)
          have HSZ3 := Aside0.mk (Nat.le_trans HSZ2.out hb.size)
          clear hb hd k0 k1 HK2 HB2 HM2 HSZ2
          have k0 := blk_cell hk3 0
          have k1 := blk_cell hk3 1
          simp only [List.getElem?_toArray, List.getElem?_cons_zero, List.getElem?_cons_succ] at k0 k1
          clear hk3
          cases hy : thr y with
          | false =>
            have HE := Aside0.mk (show r = [] ∧ is = false ∧ e = 1 by
              have h1 := HH.out
              rw [hy, Bool.and_false, if_pos rfl] at h1
              have h2 := HG.out
              rw [← h1] at h2
              rw [if_pos (show (1 : Int) ≠ 0 by decide)] at h2
              simp only [Option.some.injEq, Prod.mk.injEq] at h2
              exact ⟨h2.1.symm, h2.2.1.symm, h2.2.2.symm⟩)
            obtain ⟨rfl, rfl, rfl⟩ := HE.out
            clear hy HH HG HE HX
            go_wp2
            exact bodyPost_ret (v := .tuple #[.slice none 0 0, .bool false, .int .i64 1]) (by simp [results, Try.f10, go_sem]) rfl ⟨_, rfl, World.ownsRow_nil _ _ _ _, HB3.out⟩
          | true =>
            have HY := Aside0.mk hy
            have HH2 := Aside0.mk (show (if x ∈ ks then (6, ks, f) else linkF (l.drop (i + 1)) (ks ++ [x]) (upd f x y)) = FN by
              have h := HH.out
              rw [HX.out, hy, Bool.true_and] at h
              rwa [if_neg (by decide)] at h)
            clear hy HH
            have HWX := Aside0.mk (thr_w HX.out)
            have HWY := Aside0.mk (thr_w HY.out)
            by_cases hm : x ∈ ks
            · have HE := Aside0.mk (show r = [] ∧ is = false ∧ e = 6 by
                have h1 := HH2.out
                rw [if_pos hm] at h1
                have h2 := HG.out
                rw [← h1] at h2
                rw [if_pos (show (6 : Int) ≠ 0 by decide)] at h2
                simp only [Option.some.injEq, Prod.mk.injEq] at h2
                exact ⟨h2.1.symm, h2.2.1.symm, h2.2.2.symm⟩)
              obtain ⟨rfl, rfl, rfl⟩ := HE.out
              have dm : decide (x ∈ ks) = true := decide_eq_true hm
              clear HH2 HG HE HX HY
              go_wp2_with (at_lookup; refine wp_look2 HM3.out rfl _ _ rfl rfl _ rfl HWX.out ?_; intro hwf; clear hwf; rw [dm])
              exact bodyPost_ret (v := .tuple #[.slice none 0 0, .bool false, .int .i64 6]) (by simp [results, Try.f10, go_sem]) rfl ⟨_, rfl, World.ownsRow_nil _ _ _ _, HB3.out⟩
            · have HH3 := Aside0.mk (show linkF (l.drop (i + 1)) (ks ++ [x]) (upd f x y) = FN by have h := HH2.out; rwa [if_neg hm] at h)
              have dm : decide (x ∈ ks) = false := decide_eq_false hm
              have HNM := Aside0.mk hm
              clear HH2 HX HY hm
              go_wp2_with (first
                | (at_lookup; refine wp_look2 HM3.out rfl _ _ rfl rfl _ rfl HWX.out ?_; intro hwf; clear hwf; rw [dm])
                | (at_mapUpdate; refine wp_put HM3.out rfl _ _ _ rfl rfl (by have := HKL.out; omega) _ _ rfl HWX.out rfl HWY.out ?_; intro w4 hm4 hg4; rw [if_neg HNM.out] at hm4; have HM4 := Aside0.mk hm4; have HB4 := Aside0.mk (Below.grown HB3.out hg4 HB3.out.size (fun k hk => by cases hk; rw [HBE.out]; exact Nat.le_refl _)); have HSZ4 := Aside0.mk (Nat.le_trans HSZ3.out hg4.size); clear hm4 hg4)
                | fail)
              go_roundw
              case rel => exact ⟨i + 1, _, _, by go_num, hlt, ⟨by have := HKL.out; rw [List.length_append]; show _ + 1 ≤ _; omega⟩, HH3, HM4, HB4, HSZ4⟩
              case measure => simp [intOf]; omega
      · have HFE := Aside0.mk (show (0, ks, f) = FN by
          have h := HF.out
          rw [List.drop_eq_nil_of_le (by omega)] at h
          exact h)
        have hle : l.length ≤ i := by omega
        obtain ⟨res, htour, hres⟩ := Option.map_eq_some_iff.1 (show (tourF K ks f 8 0).map (fun x => match x with
          | some r => (r, true, (0 : Int))
          | none => ([], false, 0)) = some (r, is, e) by
          have h := HG.out
          rw [← HFE.out] at h
          rwa [if_neg (fun h => h rfl)] at h)
        have HT0 := Aside0.mk (show tourF K ks f (8 - 0) ((0 : Nat) : Int) = some res from htour)
        have HRES := Aside0.mk hres
        clear HG HF HFE htour hres
        go_wp2_with fail
        go_loopw [48] (fun v48 wq => ∃ t : Nat, v48 = .int .i64 (t : Int) ∧ t ≤ 8 ∧ Aside0 (tourF K ks f (8 - t) (t : Int) = some res) ∧ Aside0 (MI wq b ks f) ∧ Aside0 (Below w.heap.size w wq) ∧ Aside0 (b + 1 ≤ wq.heap.size)) (fun v48 _ => 8 - (intOf v48).toNat)
        case atStart => exact ⟨0, rfl, Nat.zero_le _, HT0, HM, HB, HSZ⟩
        case round =>
          clear HT0 HM HB HSZ
          obtain ⟨t, rfl, ht, HT, HM, HB, HSZ⟩ := hrel
          by_cases hlt : t < 8
          · have hlt1 : (t : Int) < 8 := by omega
            have HWT := Aside0.mk (show W64 (t : Int) by unfold W64; omega)
            have H := HT.out
            rw [show 8 - t = (8 - (t + 1)) + 1 by omega] at H
            simp only [tourF] at H
            obtain ⟨cr, hcr, H⟩ := Option.bind_eq_some_iff.1 H
            have HCR := Aside0.mk hcr
            have HH := Aside0.mk H
            clear hcr H HT
            have hba := below_alloc (Below.refl wr.heap.size wr) (.cells #[Value.int .i64 (t : Int)] 3)
            have HB1 := Aside0.mk (below_then HB.out HB.out.size hba)
            have HM1 := Aside0.mk (HM.out.below hba)
            have HSZ1 := Aside0.mk (Nat.le_trans HSZ.out hba.size)
            have HO1 := Aside0.mk (own_lower (own_lit wr [(t : Int)] (by simp)) HSZ.out)
            clear hba HM HB HSZ
            go_wp2_with (at_lookup; refine wp_look2 HM1.out rfl _ _ rfl rfl _ rfl HWT.out ?_; intro hwf; have HWF := Aside0.mk hwf; clear hwf)
            go_loopg [11, 12, 13] K (fun kq v11 v12 v13 wq => ∃ (ring : List Int) (x : Int), v12 = .int .i64 (f x) ∧ v13 = .bool (decide (x ∈ ks)) ∧ Aside0 (W64 (f x)) ∧ Aside0 (chase ks f (t : Int) kq ring x = some cr) ∧ Aside0 (kq ≤ K) ∧ Aside0 (MI wq b ks f) ∧ Aside0 (wq.ownsRow (b + 1) 3 1 v11 ring.length (nums .i64 ring)) ∧ Aside0 (Below w.heap.size w wq) ∧ Aside0 (b + 1 ≤ wq.heap.size))
            case atStart => exact ⟨[(t : Int)], (t : Int), rfl, rfl, HWF, HCR, ⟨Nat.le_refl _⟩, HM1, HO1, HB1, HSZ1⟩
            case round =>
              clear HCR HM1 HO1 HB1 HSZ1
              obtain ⟨ring, x, rfl, rfl, HWF, HCR, HKK, HM, HO, HB, HSZ⟩ := hrel
              cases gk with
              | zero => exact absurd HCR.out (by simp [chase])
              | succ k1 =>
                have H := HCR.out
                simp only [chase] at H
                obtain ⟨A11, d11, rfl, hd11, hr11⟩ := own_rd HO.out
                have HR11 := Aside0.mk hr11
                clear hr11 HCR
                by_cases hm : x ∈ ks
                · rw [if_pos hm] at H
                  have dm : decide (x ∈ ks) = true := decide_eq_true hm
                  rw [dm]
                  obtain ⟨n, hn⟩ : ∃ n, n = f x := ⟨_, rfl⟩
                  rw [← hn] at H HWF ⊢
                  clear hm dm hn
                  by_cases hnt : n = (t : Int)
                  · rw [if_pos hnt] at H
                    have hcr := (Option.some.inj H)
                    subst hcr
                    have HE := Aside0.mk (show r = ring ∧ is = true ∧ e = 0 by
                      have h1 := HH.out
                      simp only [Option.some.injEq] at h1
                      have h2 := HRES.out
                      rw [← h1] at h2
                      simp only [Prod.mk.injEq] at h2
                      exact ⟨h2.1.symm, h2.2.1.symm, h2.2.2.symm⟩)
                    obtain ⟨rfl, rfl, rfl⟩ := HE.out
                    subst hnt
                    clear H HH HRES HE
                    go_wp2
                    exact bodyPost_ret (v := .tuple #[.slice A11 r.length d11, .bool true, .int .i64 0]) (by simp [results, Try.f10, go_sem]) rfl ⟨_, rfl, own_lower HO.out HBO.out.2, HB.out⟩
                  · rw [if_neg hnt] at H
                    have d1 : (n == (t : Int)) = false := beq_eq_false_iff_ne.2 hnt
                    by_cases hrl : ring.length ≤ 500
                    · rw [if_pos hrl] at H
                      have HCO := Aside0.mk (slices_Contains_int_int.calls 1000 A11 d11 ring n _ wr (C_int HR11.out) hd11 (contains_f ring n (by omega)))
                      clear hnt
                      go_wp2_with fail
                      refine HCO.out.mono ?_
                      rintro en w5 ⟨rfl, hd⟩
                      have hb := hd.below
                      have HM5 := Aside0.mk (HM.out.below hb)
                      have HO5 := Aside0.mk (own_keep HO.out hb)
                      have HB5 := Aside0.mk (below_then HB.out HB.out.size hb)
                      have HSZ5 := Aside0.mk (Nat.le_trans HSZ.out hb.size)
                      clear hb hd HCO HM HO HB HSZ
                      by_cases hmr : n ∈ ring
                      · rw [if_pos hmr] at H
                        have hcr := (Option.some.inj H)
                        subst hcr
                        rw [decide_eq_true hmr]
                        have HN := Aside0.mk (show tourF K ks f (8 - (t + 1)) ((t : Int) + 1) = some res from HH.out)
                        clear H HH hmr
                        go_wp2
                        go_roundw
                        case rel => exact ⟨t + 1, by go_num, hlt, HN, HM5, HB5, HSZ5⟩
                        case measure => simp [intOf]; omega
                      · rw [if_neg hmr] at H
                        have HCN := Aside0.mk H
                        rw [decide_eq_false hmr]
                        have HRL := Aside0.mk hrl
                        clear H hmr hrl
                        have hba := below_alloc (Below.refl w5.heap.size w5) (.cells #[Value.int .i64 n] 3)
                        have HOa := Aside0.mk (own_keep HO5.out hba)
                        have HMa := Aside0.mk (HM5.out.below hba)
                        have HSa := Aside0.mk (Nat.le_trans HSZ5.out hba.size)
                        have HA := Aside0.mk (Below.alloc (Below.refl (b + 1) w5) HSZ5.out (.cells #[Value.int .i64 n] 3))
                        have HNB := Aside0.mk (own_ne HO5.out HBO.out.1)
                        clear hba
                        go_wp2_with (first
                          | (at_builtin; refine print_append_row (w0 := w5) (b + 1) rfl _ _ 24 3 .i64 8 rfl Try.underlying24 infoInt (by decide) _ ring [n] _ 1 1 rfl rfl HOa.out (reads_lit _ [n] (by simp) _) HA.out HSa.out (by have := HRL.out; show (ring.length + 1) * 8 ≤ _; omega) ?_; intro v1 w6 hown hB hg hat; have HO6 := Aside0.mk hown; have HB6 := Aside0.mk (Below.trans HB5.out (Below.mono hB HBO.out.2)); have HM6 := Aside0.mk (HMa.out.kept hg (fun e => HNB.out e.symm)); have HS6 := Aside0.mk (Nat.le_trans HSZ5.out hB.size); clear hown hB hg hat)
                          | (at_lookup; refine wp_look2 HM6.out rfl _ _ rfl rfl _ rfl HWF.out ?_; intro hwf; have HWN := Aside0.mk hwf; clear hwf)
                          | fail)
                        go_roundg k1
                        case measure => have := HKK.out; omega
                        case rel => exact ⟨ring ++ [n], n, rfl, rfl, HWN, HCN, ⟨by have := HKK.out; omega⟩, HM6, HO6, HB6, HS6⟩
                    · rw [if_neg hrl] at H
                      cases H
                · rw [if_neg hm] at H
                  have hcr := (Option.some.inj H)
                  subst hcr
                  have dm : decide (x ∈ ks) = false := decide_eq_false hm
                  rw [dm]
                  have HN := Aside0.mk (show tourF K ks f (8 - (t + 1)) ((t : Int) + 1) = some res from HH.out)
                  clear H HH hm dm
                  go_wp2
                  go_roundw
                  case rel => exact ⟨t + 1, by go_num, hlt, HN, HM, HB, HSZ⟩
                  case measure => simp [intOf]; omega
          · have HE := Aside0.mk (show r = [] ∧ is = false ∧ e = 0 by
              have h := HT.out
              rw [show 8 - t = 0 by omega] at h
              simp only [tourF, Option.some.injEq] at h
              have h2 := HRES.out
              rw [← h] at h2
              simp only [Prod.mk.injEq] at h2
              exact ⟨h2.1.symm, h2.2.1.symm, h2.2.2.symm⟩)
            obtain ⟨rfl, rfl, rfl⟩ := HE.out
            have hle8 : (8 : Int) ≤ (t : Int) := by omega
            have hle8n : 8 ≤ t := by omega
            clear HE HRES HT
            go_wp2
            exact bodyPost_ret (v := .tuple #[.slice none 0 0, .bool false, .int .i64 0]) (by simp [results, Try.f10, go_sem]) rfl ⟨_, rfl, World.ownsRow_nil _ _ _ _, HB.out⟩
end Go.Proofs.Ytlgkcjkicankmaa.Lk
