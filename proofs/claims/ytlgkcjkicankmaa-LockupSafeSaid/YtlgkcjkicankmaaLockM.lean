/- LockupRank: its walk. -/
import Derived.Test.YtlgkcjkicankmaaLockL
namespace Go.Proofs.Ytlgkcjkicankmaa.Lk
open Go Go.RowKit Go.Maps Go.Proofs.YtlgkcjkicankmaaW Go.Proofs.YtlgkcjkicankmaaW.PrintWords Go.Proofs.YtlgkcjkicankmaaW.PrintLast Go.Proofs.YtlgkcjkicankmaaW.PrintMore Go.Proofs.Ytlgkcjkicankmaa.PLockupEither Go.Proofs.Ytlgkcjkicankmaa.Bs Go.Proofs.Ytlgkcjkicankmaa.RegionVal
open Go.Lib hiding intOf
set_option linter.unusedVariables false
set_option linter.unusedSimpArgs false

theorem C_take32 {w : World} {A : Option Addr} {l : List S32} (h : Kd.C k32 w A l.length l) (k : Nat) (hk : k ≤ l.length) : Kd.C k32 w A (l.take k).length (l.take k) := by
  obtain ⟨h1, h2, h3⟩ := h
  have hlen : (l.take k).length = k := by rw [List.length_take]; omega
  refine ⟨rfl, by omega, fun hp => ?_⟩
  obtain ⟨ad, e, hc⟩ := h3 (by omega)
  refine ⟨ad, e, fun j p hj => hc j p ?_⟩
  have hjk := (List.getElem?_eq_some_iff.1 hj).1
  rw [List.getElem?_take, if_pos (by omega)] at hj
  exact hj
/-- block g holds the row r; the pairs l are there to read -/
structure RS (g : Nat) (A2 : Option Addr) (c2 : Nat) (r : List Int) (A : Option Addr) (l : List S32) (w : World) : Prop where
  blk : w.heap[g]? = some (.cells #[.slice A2 r.length c2] 24 (0, 0))
  rd : ReadsInt w .i64 A2 r.length r
  prs : Kd.C k32 w A l.length l
theorem RS.below {g : Nat} {A2 : Option Addr} {c2 : Nat} {r : List Int} {A : Option Addr} {l : List S32} {w w' : World} (h : RS g A2 c2 r A l w) (hb : Below w.heap.size w w') : RS g A2 c2 r A l w' :=
  ⟨blk_below h.blk hb, h.rd.below hb, Kd.C_below h.prs hb⟩
theorem R_lit0 {W : World} (base : Nat) (hb : base ≤ W.heap.size) : Kd.R k32 32 (W.alloc (.cells #[] 32)) base (fun _ => True) (.slice (some ⟨W.heap.size, 0, none⟩) 0 0) [] :=
  RE.mk' (n := 0) (xs := []) #[] rfl hb (heap_alloc_new W _) (Nat.le_refl _) (by decide) rfl rfl
theorem run_lit0 (w : World) : Sem.run Try.prog (Instr.buildSlice 28 0 #[]) w = .ok (.slice (some ⟨w.heap.size, 0, none⟩) 0 0) (w.alloc (.cells #[] 32)) := by
  go_simp
theorem run_lit32 (w : World) (a b : Int) : Sem.run Try.prog (Instr.buildSlice 28 1 #[(0, .agg #[.int .i64 a, .int .i64 b])]) w = .ok (.slice (some ⟨w.heap.size, 0, none⟩) 1 1) (w.alloc (.cells #[.int .i64 a, .int .i64 b] 32)) := by
  go_simp
theorem app32 (x : World) (base : Nat) (v1 : Value) (xs ys : List S32) (A : Option Addr) (m c : Nat) (HO : Kd.R k32 32 x base (fun _ => True) v1 xs) (HC : Kd.C k32 x A m ys) (hb : base ≤ x.heap.size) (hl : (xs.length + m) * 16 ≤ 140737488355328) :
    ∃ v2 x2, Sem.run Try.prog (builtin .append #[28, 28] 28 #[false, false] #[v1, .slice A m c]) x = .ok (.value v2) x2 ∧ Kd.R k32 32 x2 base (fun _ => True) v2 (xs ++ ys) ∧ Below base x x2 ∧ x.grownBy x2 v1.ownBlock := by
  obtain ⟨v2, x2, h1, h2, h3, h4, _⟩ := app_rows (P := Try.prog) k32 (Rr := k32.K x) (w0 := x) base 28 32 (.agg #[.int .i64 0, .int .i64 0]) 16 Try.underlying28 info32z rfl (by decide) (by omega) v1 xs ys A m c (fun _ => True) (fun _ => False) HO HC (fun y cs h => by obtain rfl := k32_open h; exact k32_mkM _ _ _ y) (fun _ h => h.elim) (fun _ _ => trivial) (Below.refl _ _) hb hl
  exact ⟨v2, x2, h1, h2, h3, h4⟩
/-- of a list with a pair turned round there is no order -/
theorem turned (l : List S32) (hl : l.length ≤ 40) (q : Nat) (hq : q < l.length) : ∃ r, rankF 500 (l ++ [⟨l[q].f1, l[q].f0⟩]) = some (r, false, 0) := by
  obtain ⟨r, ok, hr, ht⟩ := rank_told (l ++ [⟨l[q].f1, l[q].f0⟩]) (by rw [List.length_append]; show l.length + 1 ≤ 200; omega)
  rcases ht with ⟨_, hd, _, ho⟩ | ⟨h, _⟩
  · exfalso
    have h1 := ho l[q] (List.mem_append_left _ (List.getElem_mem hq))
    have h2 := ho ⟨l[q].f1, l[q].f0⟩ (List.mem_append_right _ (List.mem_singleton.2 rfl))
    exact h1.anti hd h2
  · subst h; exact ⟨r, hr⟩
theorem turned_calls (w : World) (base : Nat) (v : Value) (l : List S32) (hl : l.length ≤ 40) (q : Nat) (hq : q < l.length) (hw : ∀ p ∈ l, W64 p.f0 ∧ W64 p.f1) (x y : Int) (hx : x = l[q].f0) (hy : y = l[q].f1) (h : Kd.R k32 32 w base (fun _ => True) v (l ++ [⟨y, x⟩])) :
    Calls Try.prog 11 #[v] w fun e w' => ∃ v', e = .returned (.tuple #[v', .bool false, .int .i64 0]) ∧ Below w.heap.size w w' := by
  subst hx hy
  obtain ⟨r, hr⟩ := turned l hl q hq
  obtain ⟨A, c, rfl, hc, hC⟩ := Kd.R_reads h
  refine (rank_calls 500 w A c _ r false 0 hC hc (fun p hp => ?_) hr).mono ?_
  · rcases List.mem_append.1 hp with hp | hp
    · exact hw p hp
    · rw [List.mem_singleton.1 hp]
      exact ⟨(hw _ (List.getElem_mem hq)).2, (hw _ (List.getElem_mem hq)).1⟩
  · rintro e w' ⟨v', rfl, _, hb⟩
    exact ⟨v', rfl, hb⟩
set_option maxHeartbeats 32000000 in
set_option maxRecDepth 100000 in
theorem lockRank_walk (w : World) (A : Option Addr) (c : Nat) (l0 : List S32) (lc : l0.length ≤ c) (h0 : Kd.C k32 w A l0.length l0) (hw0 : ∀ p ∈ l0, W64 p.f0 ∧ W64 p.f1) (n : Int) (wn : W64 n) :
    Calls Try.prog 4 #[.slice A l0.length c, .int .i64 n] w fun e w' => e = .returned (.bool true) ∧ Below w.heap.size w w' := by
  obtain ⟨k, hk⟩ : ∃ k, k = min l0.length 40 := ⟨_, rfl⟩
  obtain ⟨l, hl⟩ : ∃ l, l = l0.take k := ⟨_, rfl⟩
  have hlk : l.length = k := by rw [hl, List.length_take]; omega
  have HR := Aside0.mk (show Kd.C k32 w A l.length l by rw [hl]; exact C_take32 h0 k (by omega))
  have HW := Aside0.mk (show ∀ p ∈ l, W64 p.f0 ∧ W64 p.f1 from fun p hp => hw0 p (by rw [hl] at hp; exact List.mem_of_mem_take hp))
  have hlc : l.length ≤ c := by omega
  have hl40 : l.length ≤ 40 := by omega
  have hl0 : l.length ≤ l0.length := by omega
  have hmin : min (l0.length : Int) 40 = (l.length : Int) := by omega
  have HWN := Aside0.mk wn
  clear hk hl hlk h0 hw0 wn
  obtain ⟨r, ok, hrank, htold⟩ := rank_told l (by omega)
  have HRK := Aside0.mk hrank
  have HT := Aside0.mk htold
  clear hrank htold
  go_enter Try.func4, Try.ntmps4
  go_wp2_with fail
  refine (begun_calls w).mono ?_
  rintro e w1 ⟨rfl, hb1⟩
  have HB1 := Aside0.mk hb1
  have HR1 := Aside0.mk (Kd.C_below HR.out hb1)
  clear hb1 HR
  go_wp2_with fail
  refine (rank_calls 500 w1 A c l r ok 0 HR1.out hlc HW.out HRK.out).mono ?_
  rintro e w2 ⟨v2, rfl, ho2, hb2⟩
  obtain ⟨A2, c2, rfl, hc2, hr2⟩ := own_rd ho2
  have HR2 := Aside0.mk hr2
  have HP2 := Aside0.mk (Kd.C_below HR1.out hb2)
  have HB2 := Aside0.mk (below_then HB1.out HB1.out.size hb2)
  clear ho2 hr2 hb2 HR1 HB1 HRK
  cases hok : ok with
  | false =>
    subst hok
    have HT2 := Aside0.mk (show r = [] by
      rcases HT.out with ⟨h, _⟩ | ⟨_, h, _⟩
      · cases h
      · exact h)
    obtain rfl := HT2.out
    clear HT2 HT
    go_wp2_with fail
    refine (begun_calls _).mono ?_
    rintro e w4 ⟨rfl, hb4⟩
    have hba := below_alloc (Below.refl w2.heap.size w2) (.cells #[.slice A2 0 c2] 24)
    have hk := blk_below (heap_alloc_new w2 (.cells #[.slice A2 0 c2] 24)) hb4
    have k0 := blk_cell hk 0
    simp only [List.getElem?_toArray, List.getElem?_cons_zero, List.getElem?_cons_succ] at k0
    have HB4 := Aside0.mk (below_then (below_then HB2.out HB2.out.size hba) (below_then HB2.out HB2.out.size hba).size hb4)
    clear hba hk hb4
    go_wp2
    exact bodyPost_ret (v := .bool true) (by simp [results, Try.f4, go_sem]) rfl ⟨rfl, HB4.out⟩
  | true =>
    subst hok
    have HT2 := Aside0.mk (show r.Nodup ∧ (∀ x, x ∈ r ↔ x ∈ allP l) ∧ ∀ p ∈ l, Bf r p.f0 p.f1 by
      rcases HT.out with ⟨_, h⟩ | ⟨h, _⟩
      · exact h
      · cases h)
    clear HT
    have HRL := Aside0.mk (show r.length ≤ 80 by
      have := nodup_le r (allP l) HT2.out.1 (fun x hx => (HT2.out.2.1 x).1 hx)
      rw [allP_len] at this
      omega)
    have hba := below_alloc (Below.refl w2.heap.size w2) (.cells #[.slice A2 r.length c2] 24)
    obtain ⟨g, hg⟩ : ∃ g, g = w2.heap.size := ⟨_, rfl⟩
    have HS0 := Aside0.mk (show RS g A2 c2 r A l (w2.alloc (.cells #[.slice A2 r.length c2] 24)) from ⟨by rw [hg]; exact heap_alloc_new w2 _, HR2.out.below hba, Kd.C_below HP2.out hba⟩)
    have HB0 := Aside0.mk (below_then HB2.out HB2.out.size hba)
    clear hba HR2 HP2
    go_upto_region 7 with fail
    have HGW := Aside0.mk hg
    rw [← hg]
    generalize (w2.alloc (.cells #[.slice A2 r.length c2] 24)) = W0 at HS0 HB0 ⊢
    clear hg
    go_wp2_with fail
    go_loopw [9] (fun v9 wr => ∃ i : Nat, v9 = .int .i64 (i : Int) ∧ i ≤ l.length ∧ Aside0 (RS g A2 c2 r A l wr) ∧ Aside0 (Below w.heap.size w wr)) (fun v9 _ => l.length - (intOf v9).toNat)
    case atStart => exact ⟨0, rfl, Nat.zero_le _, HS0, HB0⟩
    case round =>
      clear HS0 HB0
      obtain ⟨i, rfl, hi, HS, HB⟩ := hrel
      by_cases hlt : i < l.length
      · have hlt1 : (i : Int) < (l.length : Int) := by omega
        obtain ⟨ad, rfl, _, _⟩ := at32 HS.out.prs i hlt
        obtain ⟨x, hx⟩ : ∃ x, x = l[i].f0 := ⟨_, rfl⟩
        obtain ⟨y, hy⟩ : ∃ y, y = l[i].f1 := ⟨_, rfl⟩
        have HL0 := Aside0.mk (show ∀ w', RS g A2 c2 r (some ad) l w' → Sem.run Try.prog (Instr.loadAt 3 (.pointer (some (ad.add (i * 2))))) w' = .ok (.int .i64 x) w' from fun w' h => by
          obtain ⟨ad', e, k0, k1⟩ := at32 h.prs i hlt
          injection e with e
          subst e
          rw [← hx] at k0
          clear hx hy HS HB
          go_simp)
        have HL1 := Aside0.mk (show ∀ w', RS g A2 c2 r (some ad) l w' → Sem.run Try.prog (Instr.loadAt 3 (.pointer (some ⟨(ad.add (i * 2)).block, (ad.add (i * 2)).off + 1, none⟩))) w' = .ok (.int .i64 y) w' from fun w' h => by
          obtain ⟨ad', e, k0, k1⟩ := at32 h.prs i hlt
          injection e with e
          subst e
          rw [← hy] at k1
          clear hx hy HS HB
          go_simp)
        have hbf := atF_bf HT2.out.1 (HT2.out.2.2 l[i] (List.getElem_mem hlt))
        rw [← hx, ← hy] at hbf
        have HC0 := Aside0.mk (show ∀ w', (RS g A2 c2 r (some ad) l w' ∧ Below w.heap.size w w') → Calls Try.prog 12 #[.int .i64 x, .pointer (some ⟨g, 0, none⟩)] w' fun e w'' => e = .returned (.int .i64 (atF r x)) ∧ RS g A2 c2 r (some ad) l w'' ∧ Below w.heap.size w w'' from fun w' h => (at_calls w' g A2 c2 r x h.1.blk h.1.rd (by have := HRL.out; omega)).mono (fun e w'' hh => ⟨hh.1, h.1.below hh.2, below_then h.2 h.2.size hh.2⟩))
        have HC1 := Aside0.mk (show ∀ w', (RS g A2 c2 r (some ad) l w' ∧ Below w.heap.size w w') → Calls Try.prog 12 #[.int .i64 y, .pointer (some ⟨g, 0, none⟩)] w' fun e w'' => e = .returned (.int .i64 (atF r y)) ∧ RS g A2 c2 r (some ad) l w'' ∧ Below w.heap.size w w'' from fun w' h => (at_calls w' g A2 c2 r y h.1.blk h.1.rd (by have := HRL.out; omega)).mono (fun e w'' hh => ⟨hh.1, h.1.below hh.2, below_then h.2 h.2.size hh.2⟩))
        clear hx hy
        generalize atF r x = a at hbf HC0
        generalize atF r y = b at hbf HC1
        obtain ⟨ha, hab⟩ := hbf
        go_wp2_with fail
        refine wp_val (S := fun w' => RS g A2 c2 r (some ad) l w' ∧ Below w.heap.size w w') (by kernel_rfl) (by kernel_rfl) ⟨HS.out.below (below_drew1 (Below.refl _ _)), below_drew1 HB.out⟩ ?_
        have ha2 : decide (a < 0) = false := decide_eq_false (by omega)
        have hb2 : decide (b ≤ a) = false := decide_eq_false (by omega)
        repeat (first
          | refine st_bin (v := .bool false) rfl rfl rfl (fun w' hw => by go_simp) ?_
          | refine st_skip rfl ?_
          | refine st_move rfl rfl ?_
          | refine st_assign rfl rfl ?_
          | refine st_pickT rfl rfl rfl ?_
          | refine st_pickF rfl rfl rfl ?_
          | refine st_bin rfl rfl rfl (fun w' hw => by go_simp; rfl) ?_
          | refine st_indexAddr rfl rfl rfl (fun w' hw => by go_simp; rfl) ?_
          | refine st_un rfl rfl rfl rfl (fun w' hw => by go_simp; rfl) ?_
          | refine st_builtin rfl rfl (fun w' hw => by go_simp; rfl) ?_
          | refine st_slice rfl rfl rfl rfl rfl (fun w' hw => by go_simp; rfl) ?_
          | refine st_load (v := .int .i64 x) rfl rfl (fun w' hw => HL0.out w' hw.1) ?_
          | refine st_load (v := .int .i64 y) rfl rfl (fun w' hw => HL1.out w' hw.1) ?_
          | refine st_callv (f := 12) (vs := [.int .i64 x]) (cap := #[.pointer (some ⟨g, 0, none⟩)]) (v := .int .i64 a) rfl Try.func12 rfl rfl rfl (by kernel_rfl) (fun w' hw => HC0.out w' hw) ?_
          | refine st_callv (f := 12) (vs := [.int .i64 y]) (cap := #[.pointer (some ⟨g, 0, none⟩)]) (v := .int .i64 b) rfl Try.func12 rfl rfl rfl (by kernel_rfl) (fun w' hw => HC1.out w' hw) ?_)
        intro w6 hw6
        have HS6 := Aside0.mk hw6.1
        have HB6 := Aside0.mk hw6.2
        clear hw6
        simp only [puts, Act.put, List.setIfInBounds_toArray, List.set_cons_zero, List.set_cons_succ]
        go_wp2
        go_roundw
        case rel => exact ⟨i + 1, by go_num, hlt, HS6, HB6⟩
        case measure => simp [intOf]; omega
      · have hle : l.length ≤ i := by omega
        clear hi
        go_wp2_with fail
        go_loopw [10] (fun v10 wr => ∃ j : Nat, v10 = .int .i64 (j : Int) ∧ j ≤ r.length ∧ Aside0 (RS g A2 c2 r A l wr) ∧ Aside0 (Below w.heap.size w wr)) (fun v10 _ => r.length - (intOf v10).toNat)
        case atStart => exact ⟨0, rfl, Nat.zero_le _, HS, HB⟩
        case round =>
          clear HS HB
          obtain ⟨j, rfl, hj, HS, HB⟩ := hrel
          have k0 := blk_cell HS.out.blk 0
          simp only [List.getElem?_toArray, List.getElem?_cons_zero, List.getElem?_cons_succ] at k0
          have hr80 : r.length ≤ 80 := HRL.out
          by_cases hlt : j < r.length
          · have hlt1 : (j : Int) < (r.length : Int) := by omega
            obtain ⟨ad, rfl, hc8⟩ := HS.out.rd.2.2 (by omega)
            have kj : wr.cell? (ad.add j) = some (.int .i64 r[j]) := by
              have h := hc8 j hlt
              simpa [List.getD_eq_getElem?_getD, hlt] using h
            have HA := Aside0.mk (show atF r r[j] = (j : Int) from atF_nodup HT2.out.1 (List.getElem?_eq_getElem hlt))
            clear hc8
            generalize r[j] = y at kj HA
            have HC := Aside0.mk (at_calls wr g (some ad) c2 r y HS.out.blk HS.out.rd (by have := HRL.out; omega))
            rw [HA.out] at HC
            go_wp2_with fail
            refine HC.out.mono ?_
            rintro e w6 ⟨rfl, hb6⟩
            have HS6 := Aside0.mk (HS.out.below hb6)
            have HB6 := Aside0.mk (below_then HB.out HB.out.size hb6)
            have d1 : ((j : Int) == (j : Int)) = true := beq_iff_eq.2 rfl
            clear hb6 HC HA kj k0
            go_wp2
            go_roundw
            case rel => exact ⟨j + 1, by go_num, hlt, HS6, HB6⟩
            case measure => simp [intOf]; omega
          · have hle2 : r.length ≤ j := by omega
            clear hj
            by_cases hn : n < 0
            · go_wp2_with fail
              refine (begun_calls _).mono ?_
              rintro e w7 ⟨rfl, hb7⟩
              have HB7 := Aside0.mk (below_then HB.out HB.out.size hb7)
              clear hb7 k0
              go_wp2
              exact bodyPost_ret (v := .bool true) (by simp [results, Try.f4, go_sem]) rfl ⟨rfl, HB7.out⟩
            · by_cases hn2 : (l.length : Int) ≤ n
              · go_wp2_with fail
                refine (begun_calls _).mono ?_
                rintro e w7 ⟨rfl, hb7⟩
                have HB7 := Aside0.mk (below_then HB.out HB.out.size hb7)
                clear hb7 k0
                go_wp2
                exact bodyPost_ret (v := .bool true) (by simp [results, Try.f4, go_sem]) rfl ⟨rfl, HB7.out⟩
              · obtain ⟨q, rfl⟩ : ∃ q : Nat, n = (q : Int) := ⟨n.toNat, by omega⟩
                have hq : q < l.length := by omega
                clear hn
                obtain ⟨ad, rfl, _, _⟩ := at32 HS.out.prs q hq
                obtain ⟨x, hx⟩ : ∃ x, x = l[q].f0 := ⟨_, rfl⟩
                obtain ⟨y, hy⟩ : ∃ y, y = l[q].f1 := ⟨_, rfl⟩
                have HL0 := Aside0.mk (show ∀ w', RS g A2 c2 r (some ad) l w' → Sem.run Try.prog (Instr.loadAt 3 (.pointer (some (ad.add (q * 2))))) w' = .ok (.int .i64 x) w' from fun w' h => by
                  obtain ⟨ad', e, k0, k1⟩ := at32 h.prs q hq
                  injection e with e
                  subst e
                  rw [← hx] at k0
                  clear hx hy HS HB
                  go_simp)
                have HL1 := Aside0.mk (show ∀ w', RS g A2 c2 r (some ad) l w' → Sem.run Try.prog (Instr.loadAt 3 (.pointer (some ⟨(ad.add (q * 2)).block, (ad.add (q * 2)).off + 1, none⟩))) w' = .ok (.int .i64 y) w' from fun w' h => by
                  obtain ⟨ad', e, k0, k1⟩ := at32 h.prs q hq
                  injection e with e
                  subst e
                  rw [← hy] at k1
                  clear hx hy HS HB
                  go_simp)
                have HXY := Aside0.mk (And.intro hx hy)
                clear hx hy
                have hq1 : (q : Int) < (l.length : Int) := by omega
                go_wp2_with fail
                have hs0 : RS g A2 c2 r (some ad) l wr.drew ∧ Below w.heap.size w wr.drew := ⟨HS.out.below (below_drew1 (Below.refl _ _)), below_drew1 HB.out⟩
                have hkeep : ∀ w', Below wr.drew.heap.size wr.drew w' → RS g A2 c2 r (some ad) l w' ∧ Below w.heap.size w w' := fun w' hb => ⟨hs0.1.below hb, below_then hs0.2 hs0.2.size hb⟩
                refine wp_tree (S := fun w' => RS g A2 c2 r (some ad) l w' ∧ Below w.heap.size w w') (fun a0 F w' => ∃ (v3 va vb la lb : Value), puts a0 F = puts a0 [(13, .int .i64 0), (12, .bool false), (11, v3), (114, .int .i64 0), (113, .bool false), (112, v3), (94, .tuple #[v3, .bool false, .int .i64 0]), (111, .tuple #[v3, .bool false, .int .i64 0]), (110, vb), (109, lb), (97, va), (95, la), (108, .agg #[.int .i64 y, .int .i64 x]), (107, .int .i64 x), (106, .pointer (some (ad.add (q * 2)))), (105, .pointer (some (ad.add (q * 2)))), (104, .int .i64 (q : Int)), (103, .slice (some ad) l.length c), (102, .int .i64 y), (101, .pointer (some ⟨(ad.add (q * 2)).block, (ad.add (q * 2)).off + 1, none⟩)), (100, .pointer (some (ad.add (q * 2)))), (99, .int .i64 (q : Int)), (98, .slice (some ad) l.length c), (96, .slice (some ad) l.length c)] ∧ Below w.heap.size w w')
                  (.fork [(1, false), (3, false), (4, false), (5, false), (6, false), (7, false), (8, false), (9, false), (10, false), (11, false), (12, false), (13, false)] 0 (.fork [] 2 (.leaf [(14, true), (15, true), (16, true), (17, false), (18, false), (19, false), (20, false), (21, false), (22, false), (23, false)]) 14 (.leaf [(2, true), (15, true), (16, true), (17, false), (18, false), (19, false), (20, false), (21, false), (22, false), (23, false)])) 14 (.leaf [(0, true), (2, true), (15, true), (16, true), (17, false), (18, false), (19, false), (20, false), (21, false), (22, false), (23, false)]))
                  (by kernel_rfl) (by kernel_rfl) hs0 (fun _ _ d _ _ h => by cases d <;> exact h) ?_ ?_
                · rintro F w7 ⟨v3, va, vb, la, lb, hputs, hb7⟩
                  rw [hputs]
                  have HB7 := Aside0.mk hb7
                  clear hputs hb7 hs0 hkeep
                  simp only [puts, Act.put, List.setIfInBounds_toArray, List.set_cons_zero, List.set_cons_succ]
                  go_wp2_with fail
                  refine (begun_calls _).mono ?_
                  rintro e w8 ⟨rfl, hb8⟩
                  have HB8 := Aside0.mk (below_then HB7.out HB7.out.size hb8)
                  clear hb8 k0
                  go_wp2
                  exact bodyPost_ret (v := .bool true) (by simp [results, Try.f4, go_sem]) rfl ⟨rfl, HB8.out⟩
                · have hW := Nat.le_refl wr.drew.heap.size
                  refine se_move rfl rfl rfl ?_
                  refine se_move rfl rfl rfl ?_
                  refine se_move rfl rfl rfl ?_
                  refine se_indexAddr (v := .pointer (some (ad.add (q * 2)))) rfl rfl rfl rfl (fun w' hw => by go_simp) ?_
                  refine se_un (v := .pointer (some ⟨(ad.add (q * 2)).block, (ad.add (q * 2)).off + 1, none⟩)) rfl rfl rfl rfl rfl (fun w' hw => by go_simp) ?_
                  refine se_load (v := .int .i64 y) rfl rfl rfl (fun w' hw => HL1.out w' hw.1) ?_
                  refine se_move rfl rfl rfl ?_
                  refine se_move rfl rfl rfl ?_
                  refine se_indexAddr (v := .pointer (some (ad.add (q * 2)))) rfl rfl rfl rfl (fun w' hw => by go_simp) ?_
                  refine se_un (v := .pointer (some (ad.add (q * 2)))) rfl rfl rfl rfl rfl (fun w' hw => by go_simp) ?_
                  refine se_load (v := .int .i64 x) rfl rfl rfl (fun w' hw => HL0.out w' hw.1) ?_
                  refine se_build (vs := [(0, .int .i64 y), (1, .int .i64 x)]) (v := .agg #[.int .i64 y, .int .i64 x]) rfl rfl rfl (fun w' hw => by go_simp) ?_
                  refine ⟨?_, ?_⟩
                  · have hb0 := below_alloc (Below.refl wr.drew.heap.size wr.drew) (.cells #[] 32)
                    refine se_lit (vs := []) rfl rfl rfl (run_lit0 _) (hkeep _ hb0) ?_
                    have hR0 := R_lit0 (W := wr.drew) wr.drew.heap.size (Nat.le_refl _)
                    refine ⟨?_, ?_⟩
                    · obtain ⟨va, x1, hrun1, hR1, hb1, hg1⟩ := app32 _ wr.drew.heap.size _ [] l (some ad) l.length c hR0 (hkeep _ hb0).1.prs hb0.size (by simp; omega)
                      rw [List.nil_append] at hR1
                      have hb1' := Below.trans hb0 hb1
                      refine se_made rfl rfl rfl hrun1 (hkeep _ hb1') ?_
                      have hbA := below_alloc hb1' (.cells #[.int .i64 y, .int .i64 x] 32)
                      refine se_lit (vs := [(0, .agg #[.int .i64 y, .int .i64 x])]) rfl rfl rfl (run_lit32 _ y x) (hkeep _ hbA) ?_
                      have hsz := Nat.le_refl wr.drew.heap.size
                      obtain ⟨vb, x2, hrun2, hR2, hb2, _⟩ := app32 _ wr.drew.heap.size va l [⟨y, x⟩] _ 1 1 (Kd.R_alloc hR1 _) (C_one32 (heap_alloc_new x1 _)) hbA.size (by omega)
                      refine se_made rfl rfl rfl hrun2 (hkeep _ (Below.trans hbA (Below.mono hb2 hsz))) ?_
                      have hbB := Below.trans hbA (Below.mono hb2 hsz)
                      refine se_call (vs := [_]) rfl rfl Try.func11 (by kernel_rfl) rfl (by kernel_rfl) ?_
                      refine (turned_calls _ _ _ l (by omega) q hq HW.out x y HXY.out.1 HXY.out.2 hR2).mono ?_
                      rintro e x9 ⟨v3, rfl, hb9⟩
                      have hbC := below_then hbB hbB.size hb9
                      refine ⟨_, rfl, hkeep _ hbC, ?_⟩
                      refine se_move rfl rfl rfl ?_
                      refine se_un (v := v3) rfl rfl rfl rfl rfl (fun w' hw => by go_simp) ?_
                      refine se_un (v := .bool false) rfl rfl rfl rfl rfl (fun w' hw => by go_simp) ?_
                      refine se_un (v := .int .i64 0) rfl rfl rfl rfl rfl (fun w' hw => by go_simp) ?_
                      refine se_assign rfl rfl rfl ?_
                      refine se_assign rfl rfl rfl ?_
                      refine se_assign rfl rfl rfl ?_
                      refine ⟨v3, va, vb, .slice (some ⟨wr.drew.heap.size, 0, none⟩) 0 0, .slice (some ⟨x1.heap.size, 0, none⟩) 1 1, ?_, (hkeep _ hbC).2⟩
                      simp only [puts, Act.put, List.setIfInBounds_toArray, List.set_cons_zero, List.set_cons_succ]
                    · have hb1' := below_alloc hb0 (.cells #[.int .i64 y, .int .i64 x] 32)
                      refine se_lit (vs := [(0, .agg #[.int .i64 y, .int .i64 x])]) rfl rfl rfl (run_lit32 _ y x) (hkeep _ hb1') ?_
                      obtain ⟨va, x1, hrun1, hR1, hb1, hg1⟩ := app32 _ wr.drew.heap.size _ [] l (some ad) l.length c (Kd.R_alloc hR0 _) (hkeep _ hb1').1.prs hb1'.size (by simp; omega)
                      rw [List.nil_append] at hR1
                      have hbA := Below.trans hb1' hb1
                      refine se_made rfl rfl rfl hrun1 (hkeep _ hbA) ?_
                      have hsz := Nat.le_refl wr.drew.heap.size
                      have hlit := C_one32 (W := x1) (g := (wr.drew.alloc (.cells #[] 32)).heap.size) (a := y) (b := x) ((hg1.block _ (by simp) (fun e => by have e2 : (wr.drew.alloc (.cells #[] 32)).heap.size = wr.drew.heap.size := Option.some.inj e; simp at e2)).trans (heap_alloc_new _ _))
                      obtain ⟨vb, x2, hrun2, hR2, hb2, _⟩ := app32 _ wr.drew.heap.size va l [⟨y, x⟩] _ 1 1 hR1 hlit hbA.size (by omega)
                      refine se_made rfl rfl rfl hrun2 (hkeep _ (Below.trans hbA (Below.mono hb2 hsz))) ?_
                      have hbB := Below.trans hbA (Below.mono hb2 hsz)
                      refine se_call (vs := [_]) rfl rfl Try.func11 (by kernel_rfl) rfl (by kernel_rfl) ?_
                      refine (turned_calls _ _ _ l (by omega) q hq HW.out x y HXY.out.1 HXY.out.2 hR2).mono ?_
                      rintro e x9 ⟨v3, rfl, hb9⟩
                      have hbC := below_then hbB hbB.size hb9
                      refine ⟨_, rfl, hkeep _ hbC, ?_⟩
                      refine se_move rfl rfl rfl ?_
                      refine se_un (v := v3) rfl rfl rfl rfl rfl (fun w' hw => by go_simp) ?_
                      refine se_un (v := .bool false) rfl rfl rfl rfl rfl (fun w' hw => by go_simp) ?_
                      refine se_un (v := .int .i64 0) rfl rfl rfl rfl rfl (fun w' hw => by go_simp) ?_
                      refine se_assign rfl rfl rfl ?_
                      refine se_assign rfl rfl rfl ?_
                      refine se_assign rfl rfl rfl ?_
                      refine ⟨v3, va, vb, .slice (some ⟨wr.drew.heap.size, 0, none⟩) 0 0, .slice (some ⟨(wr.drew.alloc (.cells #[] 32)).heap.size, 0, none⟩) 1 1, ?_, (hkeep _ hbC).2⟩
                      simp only [puts, Act.put, List.setIfInBounds_toArray, List.set_cons_zero, List.set_cons_succ]
                  · have hb0 := below_alloc (Below.refl wr.drew.heap.size wr.drew) (.cells #[.int .i64 y, .int .i64 x] 32)
                    refine se_lit (vs := [(0, .agg #[.int .i64 y, .int .i64 x])]) rfl rfl rfl (run_lit32 _ y x) (hkeep _ hb0) ?_
                    have hb1' := below_alloc hb0 (.cells #[] 32)
                    refine se_lit (vs := []) rfl rfl rfl (run_lit0 _) (hkeep _ hb1') ?_
                    have hR0 := R_lit0 (W := (wr.drew.alloc (.cells #[.int .i64 y, .int .i64 x] 32))) wr.drew.heap.size hb0.size
                    obtain ⟨va, x1, hrun1, hR1, hb1, hg1⟩ := app32 _ wr.drew.heap.size _ [] l (some ad) l.length c hR0 (hkeep _ hb1').1.prs hb1'.size (by simp; omega)
                    rw [List.nil_append] at hR1
                    have hbA := Below.trans hb1' hb1
                    refine se_made rfl rfl rfl hrun1 (hkeep _ hbA) ?_
                    have hsz := Nat.le_refl wr.drew.heap.size
                    have hlit := C_one32 (W := x1) (g := wr.drew.heap.size) (a := y) (b := x) ((hg1.block _ (by simp; omega) (fun e => by have e2 : wr.drew.heap.size = (wr.drew.alloc (.cells #[.int .i64 y, .int .i64 x] 32)).heap.size := Option.some.inj e; simp at e2)).trans (blk_alloc (heap_alloc_new _ _) _))
                    obtain ⟨vb, x2, hrun2, hR2, hb2, _⟩ := app32 _ wr.drew.heap.size va l [⟨y, x⟩] _ 1 1 hR1 hlit hbA.size (by omega)
                    refine se_made rfl rfl rfl hrun2 (hkeep _ (Below.trans hbA (Below.mono hb2 hsz))) ?_
                    have hbB := Below.trans hbA (Below.mono hb2 hsz)
                    refine se_call (vs := [_]) rfl rfl Try.func11 (by kernel_rfl) rfl (by kernel_rfl) ?_
                    refine (turned_calls _ _ _ l (by omega) q hq HW.out x y HXY.out.1 HXY.out.2 hR2).mono ?_
                    rintro e x9 ⟨v3, rfl, hb9⟩
                    have hbC := below_then hbB hbB.size hb9
                    refine ⟨_, rfl, hkeep _ hbC, ?_⟩
                    refine se_move rfl rfl rfl ?_
                    refine se_un (v := v3) rfl rfl rfl rfl rfl (fun w' hw => by go_simp) ?_
                    refine se_un (v := .bool false) rfl rfl rfl rfl rfl (fun w' hw => by go_simp) ?_
                    refine se_un (v := .int .i64 0) rfl rfl rfl rfl rfl (fun w' hw => by go_simp) ?_
                    refine se_assign rfl rfl rfl ?_
                    refine se_assign rfl rfl rfl ?_
                    refine se_assign rfl rfl rfl ?_
                    refine ⟨v3, va, vb, .slice (some ⟨(wr.drew.alloc (.cells #[.int .i64 y, .int .i64 x] 32)).heap.size, 0, none⟩) 0 0, .slice (some ⟨wr.drew.heap.size, 0, none⟩) 1 1, ?_, (hkeep _ hbC).2⟩
                    simp only [puts, Act.put, List.setIfInBounds_toArray, List.set_cons_zero, List.set_cons_succ]
end Go.Proofs.Ytlgkcjkicankmaa.Lk
