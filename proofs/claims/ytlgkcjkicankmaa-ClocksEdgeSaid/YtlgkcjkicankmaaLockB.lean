/- lockup.Rank: its walk. -/
import Derived.Test.YtlgkcjkicankmaaLockA
namespace Go.Proofs.Ytlgkcjkicankmaa.Lk
open Go Go.RowKit Go.Lib Go.Maps Go.Proofs.YtlgkcjkicankmaaW.PrintWords Go.Proofs.YtlgkcjkicankmaaW.PrintLast Go.Proofs.YtlgkcjkicankmaaW.PrintMore Go.Proofs.Ytlgkcjkicankmaa.PLockupEither Go.Proofs.Ytlgkcjkicankmaa.Bs
set_option linter.unusedVariables false
set_option linter.unusedSimpArgs false

abbrev kI : Kd Int := Kd.int .i64
theorem reads_of {w : World} {A : Option Addr} {n : Nat} {xs : List Int} (h : Kd.C kI w A n xs) : ReadsInt w .i64 A n xs := Kd.reads_of_C (d := (0 : Int)) (h1 := fun _ => rfl) h
theorem C_int {w : World} {A : Option Addr} {n : Nat} {xs : List Int} (h : ReadsInt w .i64 A n xs) : Kd.C kI w A n xs := Kd.C_of_reads (d := (0 : Int)) (h1 := fun _ => rfl) h
theorem C_cell {w : World} {A : Option Addr} {n : Nat} {xs : List Int} (h : Kd.C kI w A n xs) (i : Nat) (hi : i < xs.length) : ∃ ad, A = some ad ∧ w.cell? (ad.add i) = some (.int .i64 xs[i]) := by
  obtain ⟨ad, rfl, h0⟩ := Kd.at_int h (i : Int) (by omega) (by have := h.1; omega)
  have hrd : rd xs (i : Int) = xs[i] := by simp [rd, List.getD_eq_getElem?_getD, hi]
  rw [hrd, Int.toNat_natCast] at h0
  exact ⟨ad, rfl, h0⟩
theorem own_far {w w1 : World} {bo g n : Nat} {v : Value} {xs : List Value} (h : w.ownsRow bo 3 1 v n xs) (hg : w.grownBy w1 (some g)) (hlt : g < bo) : w1.ownsRow bo 3 1 v n xs := by
  refine own_other h (row := some g) hg ?_
  by_cases hv : v.ownBlock = none
  · exact .inl hv
  · refine .inr fun e => ?_
    have := World.ownsRow.lt h g e
    omega
theorem own_lower {w : World} {base base' : Nat} {e : TypeId} {size : Nat} {v : Value} {n : Nat} {xs : List Value} (h : w.ownsRow base e size v n xs) (hb : base' ≤ base) : w.ownsRow base' e size v n xs := by
  obtain ⟨h1, h2⟩ := h
  refine ⟨h1, ?_⟩
  rcases h2 with h2 | ⟨g, cap, cur, e1, e2, e3⟩
  · exact .inl h2
  · exact .inr ⟨g, cap, cur, e1, Nat.le_trans hb e2, e3⟩
theorem own_ne {w : World} {bo g n : Nat} {v : Value} {xs : List Value} (h : w.ownsRow bo 3 1 v n xs) (hlt : g < bo) : v.ownBlock ≠ some g := fun e => by
  have := World.ownsRow.lt h g e
  omega
theorem own_keep {w w1 : World} {bo n : Nat} {v : Value} {xs : List Value} (h : w.ownsRow bo 3 1 v n xs) (hb : Below w.heap.size w w1) : w1.ownsRow bo 3 1 v n xs := by
  refine own_other h (row := none) ⟨hb.os, hb.tape, hb.output, hb.size, fun k hk _ => hb.block k hk⟩ ?_
  by_cases hv : v.ownBlock = none
  · exact .inl hv
  · exact .inr hv
theorem gb_trans {a b c : World} {r : Option Nat} (h1 : a.grownBy b r) (h2 : b.grownBy c r) : a.grownBy c r :=
  ⟨h2.1.trans h1.1, h2.2.trans h1.2, h2.3.trans h1.3, Nat.le_trans h1.size h2.size, fun k hk hn => (h2.block k (Nat.lt_of_lt_of_le hk h1.size) hn).trans (h1.block k hk hn)⟩
theorem gb_below {a b : World} (r : Option Nat) (h : Below a.heap.size a b) : a.grownBy b r := ⟨h.1, h.2, h.3, h.size, fun k hk _ => h.block k hk⟩
theorem blk_grown {w w' : World} {g b : Nat} {cs : Array Value} {t : TypeId} (h : w.heap[g]? = some (.cells cs t (0, 0))) (hg : w.grownBy w' (some b)) (hne : g ≠ b) : w'.heap[g]? = some (.cells cs t (0, 0)) :=
  (hg.block g (Array.getElem?_eq_some_iff.1 h).1 (fun e => hne (by injection e))).trans h
theorem at32 {w : World} {A : Option Addr} {n : Nat} {xs : List S32} (h : Kd.C k32 w A n xs) (i : Nat) (hi : i < xs.length) : ∃ ad, A = some ad ∧ w.cell? (ad.add (i * 2)) = some (.int .i64 xs[i].f0) ∧ w.cell? ⟨(ad.add (i * 2)).block, (ad.add (i * 2)).off + 1, none⟩ = some (.int .i64 xs[i].f1) := by
  obtain ⟨ad, e, h0, h1⟩ := at_T32 h (i : Int) (by omega) (by have := h.1; omega)
  have hrd : rd_T32 xs (i : Int) = xs[i] := by unfold rd_T32; simp [List.getD_eq_getElem?_getD, hi]
  rw [hrd, Int.toNat_natCast] at h0 h1
  exact ⟨ad, e, h0, h1⟩

/-- one key more -/
def addK (ks : List Int) (x : Int) : List Int := if x ∈ ks then ks else ks ++ [x]
theorem addK_len (ks : List Int) (x : Int) : (addK ks x).length ≤ ks.length + 1 := by unfold addK; split <;> simp
theorem addK_nodup {ks : List Int} (h : ks.Nodup) (x : Int) : (addK ks x).Nodup := by
  unfold addK
  split
  · exact h
  · rename_i hx
    exact List.nodup_append.2 ⟨h, by simp, fun a ha b hb => by rw [List.mem_singleton.1 hb]; exact fun e => hx (e ▸ ha)⟩
abbrev wI (x : Int) : Int := wrap64 x
theorem wI_w (x : Int) : W64 (wI x) := by unfold W64 wI wrap64; omega
theorem wI_id {x : Int} (h : W64 x) : IntKind.i64.wrap x = x := by unfold W64 at h; rw [IntKind.wrap_i64]; omega
theorem upd_self (f : Int → Int) (x : Int) : upd f x (f x) = f := by
  funext y
  unfold upd
  split
  · rename_i h; rw [h]
  · rfl
def fillP : List S32 → List Int → (Int → Int) → List Int × (Int → Int)
  | [], ks, f => (ks, f)
  | p :: l, ks, f => fillP l (addK (addK ks p.f0) p.f1) (upd f p.f1 (wI (f p.f1 + 1)))
def decP : List S32 → Int → List Int → (Int → Int) → List Int × (Int → Int)
  | [], _, ks, f => (ks, f)
  | p :: l, m, ks, f => if p.f0 = m then decP l m (addK ks p.f1) (upd f p.f1 (wI (f p.f1 - 1))) else decP l m ks f
/-- m is the least key that waits for nobody -/
def IsLeast (ks : List Int) (f : Int → Int) (m : Int) : Prop := m ∈ ks ∧ f m = 0 ∧ ∀ x ∈ ks, f x = 0 → m ≤ x
def leastOf (ks : List Int) (f : Int → Int) : Option Int := (ks.filter (fun x => decide (f x = 0))).min?
theorem leastOf_some {ks : List Int} {f : Int → Int} {m : Int} (h : IsLeast ks f m) : leastOf ks f = some m := by
  unfold leastOf
  rw [List.min?_eq_some_iff]
  exact ⟨List.mem_filter.2 ⟨h.1, decide_eq_true h.2.1⟩, fun x hx => h.2.2 x (List.mem_filter.1 hx).1 (of_decide_eq_true (List.mem_filter.1 hx).2)⟩
theorem leastOf_none {ks : List Int} {f : Int → Int} (h : ∀ x ∈ ks, f x ≠ 0) : leastOf ks f = none := by
  unfold leastOf
  rw [List.min?_eq_none_iff, List.filter_eq_nil_iff]
  intro x hx
  simpa using h x hx
def rankG (l : List S32) : Nat → List Int → (Int → Int) → List Int → Option (List Int × Bool)
  | 0, _, _, _ => none
  | k + 1, ks, f, out => if ks = [] then some (out, true) else match leastOf ks f with
    | none => some ([], false)
    | some m => if ks.length ≤ 10000 ∧ out.length ≤ 10000 then rankG l k (decP l m (ks.erase m) (upd f m 0)).1 (decP l m (ks.erase m) (upd f m 0)).2 (out ++ [m]) else none
/-- what Rank tells -/
def rankF (K : Nat) (l : List S32) : Option (List Int × Bool × Int) := if 200 < l.length then some ([], false, 2) else (rankG l K (fillP l [] (fun _ => 0)).1 (fillP l [] (fun _ => 0)).2 []).map fun x => (x.1, x.2, 0)
theorem RG.left_eq {w : World} {b r : Nat} {ks : List Int} {f : Int → Int} {left : Int → Bool} {cnt : Nat} (h : RG w b r ks f left cnt) : w.rangeLeft b r = cnt := by
  obtain ⟨D, lf, h1, _⟩ := h
  exact h1.left_eq
/-- as far as the range has come -/
structure Seen (ks : List Int) (f : Int → Int) (left : Int → Bool) (least : Int) (some_ : Bool) : Prop where
  no : some_ = false → ∀ x ∈ ks, left x = false → f x ≠ 0
  yes : some_ = true → W64 least ∧ least ∈ ks ∧ f least = 0 ∧ ∀ x ∈ ks, left x = false → f x = 0 → least ≤ x
theorem Seen.start (ks : List Int) (f : Int → Int) : Seen ks f (fun x => decide (x ∈ ks)) 0 false :=
  ⟨fun _ x hx hl => absurd hx (of_decide_eq_false hl), fun h => by cases h⟩
theorem left_cases {left : Int → Bool} {x z : Int} (h : (left z && !decide (z = x)) = false) : left z = false ∨ z = x := by
  rw [Bool.and_eq_false_iff] at h
  rcases h with h | h
  · exact .inl h
  · exact .inr (by simpa using h)
theorem Seen.stay {ks : List Int} {f : Int → Int} {left : Int → Bool} {least x : Int} {some_ : Bool} (h : Seen ks f left least some_) (hx : f x ≠ 0 ∨ (some_ = true ∧ least ≤ x)) : Seen ks f (fun z => left z && !decide (z = x)) least some_ := by
  refine ⟨fun hs z hz hl hf => ?_, fun hs => ?_⟩
  · rcases left_cases hl with h1 | h1
    · exact h.no hs z hz h1 hf
    · subst h1
      rcases hx with h2 | h2
      · exact h2 hf
      · rw [hs] at h2; cases h2.1
  · obtain ⟨h1, h2, h3, h4⟩ := h.yes hs
    refine ⟨h1, h2, h3, fun z hz hl hf => ?_⟩
    rcases left_cases hl with h5 | h5
    · exact h4 z hz h5 hf
    · subst h5
      rcases hx with h6 | h6
      · exact absurd hf h6
      · exact h6.2
theorem Seen.take {ks : List Int} {f : Int → Int} {left : Int → Bool} {least x : Int} {some_ : Bool} (h : Seen ks f left least some_) (hw : W64 x) (hk : x ∈ ks) (hf : f x = 0) (hx : some_ = false ∨ x < least) : Seen ks f (fun z => left z && !decide (z = x)) x true := by
  refine ⟨fun hs => by (cases hs), fun _ => ⟨hw, hk, hf, fun z hz hl hzf => ?_⟩⟩
  rcases left_cases hl with h5 | h5
  · rcases hx with h6 | h6
    · exact absurd hzf (h.no h6 z hz h5)
    · cases hs : some_ with
      | false => exact absurd hzf (h.no hs z hz h5)
      | true =>
        have := (h.yes hs).2.2.2 z hz h5 hzf
        omega
  · rw [h5]; exact Int.le_refl _
theorem Seen.least {ks : List Int} {f : Int → Int} {left : Int → Bool} {least : Int} {some_ : Bool} (h : Seen ks f left least some_) (hl : ∀ x, left x = false) : (some_ = false ∧ leastOf ks f = none) ∨ (some_ = true ∧ leastOf ks f = some least ∧ W64 least) := by
  cases hs : some_ with
  | false => exact .inl ⟨rfl, leastOf_none (fun x hx => h.no hs x hx (hl x))⟩
  | true =>
    obtain ⟨h1, h2, h3, h4⟩ := h.yes hs
    exact .inr ⟨rfl, leastOf_some ⟨h2, h3, fun x hx hf => h4 x hx (hl x) hf⟩, h1⟩

theorem own_row {w w1 : World} {bo g n : Nat} {v : Value} {xs : List Value} (h : w.ownsRow bo 3 1 v n xs) (hg : w.grownBy w1 (some g)) (hne : v.ownBlock ≠ some g) : w1.ownsRow bo 3 1 v n xs := by
  refine own_other h (row := some g) hg ?_
  by_cases hv : v.ownBlock = none
  · exact .inl hv
  · exact .inr hne
set_option maxHeartbeats 16000000 in
set_option maxRecDepth 100000 in
theorem rank_calls (K : Nat) (w : World) (A : Option Addr) (c : Nat) (l : List S32) (r : List Int) (ok : Bool) (e : Int) (hr : Kd.C k32 w A l.length l) (hc : l.length ≤ c) (hw : ∀ p ∈ l, W64 p.f0 ∧ W64 p.f1) (h : rankF K l = some (r, ok, e)) :
    Calls Try.prog 11 #[.slice A l.length c] w fun en w' => ∃ v, en = .returned (.tuple #[v, .bool ok, .int .i64 e]) ∧ w'.ownsRow w.heap.size 3 1 v r.length (nums .i64 r) ∧ Below w.heap.size w w' := by
  have HR := Aside0.mk hr
  have HW := Aside0.mk hw
  unfold rankF at h
  clear hr hw
  by_cases hl : 200 < l.length
  · rw [if_pos hl] at h
    simp only [Option.some.injEq, Prod.mk.injEq] at h
    obtain ⟨rfl, rfl, rfl⟩ := h
    have hl1 : (200 : Int) < (l.length : Int) := by omega
    go_enter Try.func11, Try.ntmps11
    go_wp2
    exact bodyPost_ret (v := .tuple #[.slice none 0 0, .bool false, .int .i64 2]) (by simp [results, Try.f11, go_sem]) rfl ⟨_, rfl, World.ownsRow_nil _ _ _ _, Below.refl _ _⟩
  · rw [if_neg hl] at h
    obtain ⟨⟨x1, x2⟩, hx, h⟩ := Option.map_eq_some_iff.1 h
    simp only [Prod.mk.injEq] at h
    obtain ⟨rfl, rfl, rfl⟩ := h
    have HG := Aside0.mk hx
    have hl2 : l.length ≤ 200 := by omega
    have hl1 : (l.length : Int) ≤ 200 := by omega
    clear h hx
    have hmm := @run_makeMap Try.prog
    go_enter Try.func11, Try.ntmps11
    go_upto_region 4 with (fail)
    clear hmm
    have HM0 := Aside0.mk (MI.new w)
    have HB0 := Aside0.mk (below_alloc (Below.refl w.heap.size w) (.map #[] 0))
    have hsz : (w.alloc (.map #[] 0)).heap.size = w.heap.size + 1 := Array.size_push _
    obtain ⟨b, hb⟩ : ∃ b, b = w.heap.size := ⟨_, rfl⟩
    have HBE := Aside0.mk hb
    have HSZ := Aside0.mk (show b + 1 ≤ (w.alloc (.map #[] 0)).heap.size by rw [hsz, hb]; exact Nat.le_refl _)
    rw [← hb] at HM0 ⊢
    generalize (w.alloc (.map #[] 0)) = W0 at HM0 HB0 HSZ ⊢
    clear hb hsz
    obtain ⟨FN, hFN⟩ : ∃ FN, FN = fillP l [] (fun _ => 0) := ⟨_, rfl⟩
    rw [← hFN] at HG
    have HF0 := Aside0.mk (show fillP (l.drop 0) [] (fun _ => 0) = FN from hFN.symm)
    clear hFN
    go_wp2_with fail
    go_loopw [21] (fun v21 wr => ∃ (i : Nat) (ks : List Int) (f : Int → Int), v21 = .int .i64 (i : Int) ∧ i ≤ l.length ∧ Aside0 (ks.length ≤ 2 * i) ∧ Aside0 ks.Nodup ∧ Aside0 (fillP (l.drop i) ks f = FN) ∧ Aside0 (MI wr b ks f) ∧ Aside0 (Below w.heap.size w wr) ∧ Aside0 (b + 1 ≤ wr.heap.size)) (fun v21 _ => l.length - (intOf v21).toNat)
    case atStart => exact ⟨0, [], _, rfl, Nat.zero_le _, ⟨Nat.zero_le _⟩, ⟨List.nodup_nil⟩, HF0, HM0, HB0, HSZ⟩
    case round =>
      clear HF0 HM0 HB0 HSZ
      obtain ⟨i, ks, f, rfl, hi, HKL, HND, HF, HM, HB, HSZ⟩ := hrel
      by_cases hlt : i < l.length
      · have hlt1 : (i : Int) < (l.length : Int) := by omega
        obtain ⟨ad, rfl, h0, h1⟩ := at32 (Kd.C_below HR.out HB.out) i hlt
        have hwx := HW.out l[i] (List.getElem_mem hlt)
        have H := HF.out
        rw [List.drop_eq_getElem_cons hlt] at H
        simp only [fillP] at H
        obtain ⟨x, hx⟩ : ∃ x, x = l[i].f0 := ⟨_, rfl⟩
        obtain ⟨y, hy⟩ : ∃ y, y = l[i].f1 := ⟨_, rfl⟩
        rw [← hx] at h0 hwx H
        rw [← hy] at h1 hwx H
        have HH := Aside0.mk H
        obtain ⟨hwx, hwy⟩ := hwx
        have HWX := Aside0.mk hwx
        have HWY := Aside0.mk hwy
        clear hx hy H HF hwx hwy
        go_upto_region 7 with (fail)
        have hba := below_alloc (Below.refl wr.heap.size wr) (.cells #[Value.int .i64 x, Value.int .i64 y] 32)
        have n1 := heap_alloc_new wr (.cells #[Value.int .i64 x, Value.int .i64 y] 32)
        have HB1 := Aside0.mk (below_then HB.out HB.out.size hba)
        have HM1 := Aside0.mk (HM.out.below hba)
        have HNE := Aside0.mk (show wr.heap.size ≠ b by have := HSZ.out; omega)
        have HSZ1 := Aside0.mk (Nat.le_trans HSZ.out hba.size)
        obtain ⟨g, hg⟩ : ∃ g, g = wr.heap.size := ⟨_, rfl⟩
        rw [← hg] at n1 HNE ⊢
        have k0 := blk_cell n1 0
        simp only [List.getElem?_toArray, List.getElem?_cons_zero, List.getElem?_cons_succ] at k0
        generalize (wr.alloc (.cells #[Value.int .i64 x, Value.int .i64 y] 32)) = W1 at n1 k0 HB1 HM1 HSZ1 ⊢
        have HK1 := Aside0.mk n1
        clear h0 h1 hba n1 hg HB HM HSZ
        go_wp2_with (first
          | (at_lookup; refine wp_look HM1.out rfl _ _ rfl rfl _ rfl HWX.out ?_; intro hwf; have hwr := wI_id hwf; have HWF := Aside0.mk hwf; clear hwf)
          | (at_mapUpdate; refine wp_put HM1.out rfl _ _ _ rfl rfl (by have := HKL.out; omega) _ _ rfl HWX.out rfl HWF.out ?_; intro w2 hm2 hg2; rw [upd_self] at hm2; have HM2 := Aside0.mk (show MI w2 b (addK ks x) f from hm2); have hk2 := blk_grown HK1.out hg2 HNE.out; have HK2 := Aside0.mk hk2; have HB2 := Aside0.mk (Below.grown HB1.out hg2 HB1.out.size (fun k hk => by cases hk; rw [HBE.out]; exact Nat.le_refl _)); have HSZ2 := Aside0.mk (Nat.le_trans HSZ1.out hg2.size); have k1 := blk_cell hk2 1; simp only [List.getElem?_toArray, List.getElem?_cons_zero, List.getElem?_cons_succ] at k1; clear hm2 hg2 hk2 k0 hwr)
          | (at_lookup; refine wp_look HM2.out rfl _ _ rfl rfl _ rfl HWY.out ?_; intro hwf2; clear hwf2)
          | (at_mapUpdate; refine wp_put HM2.out rfl _ _ _ rfl rfl (by have := HKL.out; have := addK_len ks x; omega) _ _ rfl HWY.out rfl (wI_w _) ?_; intro w3 hm3 hg3; have HM3 := Aside0.mk (show MI w3 b (addK (addK ks x) y) (upd f y (wI (f y + 1))) from hm3); have HB3 := Aside0.mk (Below.grown HB2.out hg3 HB2.out.size (fun k hk => by cases hk; rw [HBE.out]; exact Nat.le_refl _)); have HSZ3 := Aside0.mk (Nat.le_trans HSZ2.out hg3.size); clear hm3 hg3)
          | fail)
        go_roundw
        case rel => exact ⟨i + 1, _, _, by go_num, hlt, ⟨by have := HKL.out; have h1 := addK_len ks x; have h2 := addK_len (addK ks x) y; omega⟩, ⟨addK_nodup (addK_nodup HND.out _) _⟩, HH, HM3, HB3, HSZ3⟩
        case measure => simp [intOf]; omega
      · have HFE := Aside0.mk (show (ks, f) = FN by
          have h := HF.out
          rw [List.drop_eq_nil_of_le (by omega)] at h
          exact h)
        have hle : l.length ≤ i := by omega
        have HG2 := Aside0.mk (show rankG l K ks f [] = some (x1, x2) by have h := HG.out; rw [← HFE.out] at h; exact h)
        have HBO := Aside0.mk (show b < b + 1 ∧ w.heap.size ≤ b + 1 by rw [HBE.out]; exact ⟨by omega, by omega⟩)
        clear HG HF HFE
        go_wp2_with fail
        go_loopg [8] K (fun kq v8 wq => ∃ (ks : List Int) (f : Int → Int) (out : List Int), Aside0 (rankG l kq ks f out = some (x1, x2)) ∧ Aside0 (kq ≤ K) ∧ Aside0 ks.Nodup ∧ Aside0 (MI wq b ks f) ∧ Aside0 (wq.ownsRow (b + 1) 3 1 v8 out.length (nums .i64 out)) ∧ Aside0 (Below w.heap.size w wq) ∧ Aside0 (b + 1 ≤ wq.heap.size))
        case atStart => exact ⟨ks, f, [], HG2, ⟨Nat.le_refl _⟩, HND, HM, ⟨World.ownsRow_nil _ _ _ _⟩, HB, HSZ⟩
        case round =>
          clear HG2 HND HM HB HSZ
          obtain ⟨ks, f, out, HG, HKK, HND, HM, HO, HB, HSZ⟩ := hrel
          cases gk with
          | zero => exact absurd HG.out (by simp [rankG])
          | succ k1 =>
            have H := HG.out
            simp only [rankG] at H
            by_cases hks : ks = []
            · subst hks
              rw [if_pos rfl] at H
              simp only [Option.some.injEq, Prod.mk.injEq] at H
              obtain ⟨rfl, rfl⟩ := H
              go_wp2_with (at_len; refine wp_len HM.out rfl _ rfl rfl ?_)
              exact bodyPost_ret (v := .tuple #[u8, .bool true, .int .i64 0]) (by simp [results, Try.f11, go_sem]) rfl ⟨_, rfl, own_lower HO.out HBO.out.2, HB.out⟩
            · rw [if_neg hks] at H
              have HH := Aside0.mk H
              have hkp : 0 < ks.length := List.length_pos_iff.2 hks
              have hkp1 : (0 : Int) < (ks.length : Int) := by omega
              clear H HG hks
              go_wp2_with (first
                | (at_len; refine wp_len HM.out rfl _ rfl rfl ?_)
                | (at_range; refine wp_range HM.out rfl _ rfl rfl ?_; intro w5 hrg hb5; have HRG0 := Aside0.mk hrg; have HB5 := Aside0.mk hb5; clear hrg hb5)
                | fail)
              go_frame
              obtain ⟨rr, hrr⟩ : ∃ rr, rr = wr.heap.size := ⟨_, rfl⟩
              have HON := Aside0.mk (show u8.ownBlock ≠ some rr from fun e => by
                have := World.ownsRow.lt HO.out rr e
                omega)
              have HRR := Aside0.mk (show w.heap.size ≤ rr by have := HB.out.size; omega)
              have HO5 := Aside0.mk (own_keep HO.out HB5.out)
              have HBw := Aside0.mk (below_then HB.out HB.out.size HB5.out)
              have HSZ5 := Aside0.mk (Nat.le_trans HSZ.out HB5.out.size)
              rw [← hrr] at HRG0 ⊢
              clear hrr HO HB HB5 HSZ HM
              go_loopw [9, 10] (fun v9 v10 wq => ∃ (least : Int) (sm : Bool) (left : Int → Bool) (cnt : Nat), v9 = .int .i64 least ∧ v10 = .bool sm ∧ Aside0 (RG wq b rr ks f left cnt) ∧ Aside0 (Seen ks f left least sm) ∧ Aside0 (wq.ownsRow (b + 1) 3 1 u8 out.length (nums .i64 out)) ∧ Aside0 (Below w.heap.size w wq) ∧ Aside0 (b + 1 ≤ wq.heap.size)) (fun _ _ wq => wq.rangeLeft b rr)
              case atStart => exact ⟨0, false, _, _, rfl, rfl, HRG0, ⟨Seen.start ks f⟩, HO5, HBw, HSZ5⟩
              case round =>
                clear HRG0 HO5 HBw HSZ5
                obtain ⟨least, sm, left, cnt, rfl, rfl, HRG, HS, HO, HB, HSZ⟩ := hrel
                go_wp2_with (at_next; refine wp_next HRG.out rfl _ rfl rfl ?_ ?_)
                · intro hl0
                  have HL := HS.out.least hl0
                  have HM := Aside0.mk HRG.out.map
                  have H := HH.out
                  clear HS HRG hl0
                  rcases HL with ⟨rfl, h2⟩ | ⟨rfl, h2, h3⟩
                  · rw [h2] at H
                    simp only [Option.some.injEq, Prod.mk.injEq] at H
                    obtain ⟨rfl, rfl⟩ := H
                    clear HH h2
                    go_wp2
                    exact bodyPost_ret (v := .tuple #[.slice none 0 0, .bool false, .int .i64 0]) (by simp [results, Try.f11, go_sem]) rfl ⟨_, rfl, World.ownsRow_nil _ _ _ _, HB.out⟩
                  · rw [h2] at H
                    by_cases hgd : ks.length ≤ 10000 ∧ out.length ≤ 10000
                    · simp only [if_pos hgd] at H
                      have HGD := Aside0.mk hgd
                      have HLW := Aside0.mk h3
                      obtain ⟨FD, hFD⟩ : ∃ FD, FD = decP l least (ks.erase least) (upd f least 0) := ⟨_, rfl⟩
                      rw [← hFD] at H
                      have HN := Aside0.mk H
                      have HFD := Aside0.mk (show decP (l.drop 0) least (ks.erase least) (upd f least 0) = FD from hFD.symm)
                      clear HH h2 h3 hgd H hFD
                      have hba := below_alloc (Below.refl wr.heap.size wr) (.cells #[Value.int .i64 least] 3)
                      have HOa := Aside0.mk (own_keep HO.out hba)
                      have HMa := Aside0.mk (HM.out.below hba)
                      have HSa := Aside0.mk (Nat.le_trans HSZ.out hba.size)
                      have HA := Aside0.mk (Below.alloc (Below.refl (b + 1) wr) HSZ.out (.cells #[Value.int .i64 least] 3))
                      have HNB := Aside0.mk (own_ne HO.out HBO.out.1)
                      clear hba
                      go_wp2_with (first
                        | (at_builtin; refine print_append_row (w0 := wr) (b + 1) rfl _ _ 24 3 .i64 8 rfl Try.underlying24 infoInt (by decide) _ out [least] _ 1 1 rfl rfl HOa.out (reads_lit _ [least] (by simp) _) HA.out HSa.out (by have := HGD.out; show (out.length + 1) * 8 ≤ _; omega) ?_; intro v1 w6 hown hB hg hat; have HO6 := Aside0.mk hown; have HB6 := Aside0.mk (Below.trans HB.out (Below.mono hB HBO.out.2)); have HM6 := Aside0.mk (HMa.out.kept hg (fun e => HNB.out e.symm)); have HS6 := Aside0.mk (Nat.le_trans HSZ.out hB.size); clear hown hB hg hat)
                        | (at_delete; refine wp_del HM6.out HND.out rfl _ _ rfl rfl _ rfl HLW.out ?_; intro w7 hm7 hg7; have HM7 := Aside0.mk hm7; have HO7 := Aside0.mk (own_far HO6.out hg7 HBO.out.1); have HB7 := Aside0.mk (Below.grown HB6.out hg7 HB6.out.size (fun k hk => by cases hk; rw [HBE.out]; exact Nat.le_refl _)); have HS7 := Aside0.mk (Nat.le_trans HS6.out hg7.size); clear hm7 hg7)
                        | fail)
                      go_loopw [68] (fun v68 wq => ∃ (i : Nat) (ks2 : List Int) (f2 : Int → Int), v68 = .int .i64 (i : Int) ∧ i ≤ l.length ∧ Aside0 (ks2.length ≤ 10000 + i) ∧ Aside0 ks2.Nodup ∧ Aside0 (decP (l.drop i) least ks2 f2 = FD) ∧ Aside0 (MI wq b ks2 f2) ∧ Aside0 (wq.ownsRow (b + 1) 3 1 v1 (out ++ [least]).length (nums .i64 (out ++ [least]))) ∧ Aside0 (Below w.heap.size w wq) ∧ Aside0 (b + 1 ≤ wq.heap.size)) (fun v68 _ => l.length - (intOf v68).toNat)
                      case atStart => exact ⟨0, _, _, rfl, Nat.zero_le _, ⟨by have h1 := HGD.out.1; have h2 := List.length_erase_le (a := least) (l := ks); omega⟩, ⟨HND.out.erase _⟩, HFD, HM7, HO7, HB7, HS7⟩
                      case round =>
                        clear HFD HM7 HO7 HB7 HS7 HO6 HB6 HM6 HS6 HOa HMa HSa HA HO HB HSZ HM
                        obtain ⟨i, ks2, f2, rfl, hi, HKL, HND2, HF, HM, HO, HB, HSZ⟩ := hrel
                        by_cases hlt : i < l.length
                        · have hlt1 : (i : Int) < (l.length : Int) := by omega
                          obtain ⟨ad, rfl, h0, h1⟩ := at32 (Kd.C_below HR.out HB.out) i hlt
                          have hwx := HW.out l[i] (List.getElem_mem hlt)
                          have H := HF.out
                          rw [List.drop_eq_getElem_cons hlt] at H
                          simp only [decP] at H
                          obtain ⟨x, hx⟩ : ∃ x, x = l[i].f0 := ⟨_, rfl⟩
                          obtain ⟨y, hy⟩ : ∃ y, y = l[i].f1 := ⟨_, rfl⟩
                          rw [← hx] at h0 hwx H
                          rw [← hy] at h1 hwx H
                          have HH := Aside0.mk H
                          obtain ⟨hwx, hwy⟩ := hwx
                          have HWY := Aside0.mk hwy
                          clear hx hy H HF hwx hwy
                          go_upto_region 25 with (fail)
                          have hba := below_alloc (Below.refl wr.heap.size wr) (.cells #[Value.int .i64 x, Value.int .i64 y] 32)
                          have n1 := heap_alloc_new wr (.cells #[Value.int .i64 x, Value.int .i64 y] 32)
                          have HB1 := Aside0.mk (below_then HB.out HB.out.size hba)
                          have HM1 := Aside0.mk (HM.out.below hba)
                          have HO1 := Aside0.mk (own_keep HO.out hba)
                          have HSZ1 := Aside0.mk (Nat.le_trans HSZ.out hba.size)
                          obtain ⟨g, hg⟩ : ∃ g, g = wr.heap.size := ⟨_, rfl⟩
                          rw [← hg] at n1 ⊢
                          have k0 := blk_cell n1 0
                          have k1 := blk_cell n1 1
                          simp only [List.getElem?_toArray, List.getElem?_cons_zero, List.getElem?_cons_succ] at k0 k1
                          generalize (wr.alloc (.cells #[Value.int .i64 x, Value.int .i64 y] 32)) = W1 at n1 k0 k1 HB1 HM1 HO1 HSZ1 ⊢
                          clear h0 h1 hba n1 hg HB HM HSZ HO
                          by_cases hxl : x = least
                          · have HH2 := Aside0.mk (show decP (l.drop (i + 1)) least (addK ks2 y) (upd f2 y (wI (f2 y - 1))) = FD by have h := HH.out; rwa [if_pos hxl] at h)
                            have d1 : (x == least) = true := beq_iff_eq.2 hxl
                            clear HH hxl
                            go_wp2_with (first
                              | (at_lookup; refine wp_look HM1.out rfl _ _ rfl rfl _ rfl HWY.out ?_; intro hwf2; clear hwf2)
                              | (at_mapUpdate; refine wp_put HM1.out rfl _ _ _ rfl rfl (by have := HKL.out; omega) _ _ rfl HWY.out rfl (wI_w _) ?_; intro w3 hm3 hg3; have HM3 := Aside0.mk (show MI w3 b (addK ks2 y) (upd f2 y (wI (f2 y - 1))) from hm3); have HO3 := Aside0.mk (own_far HO1.out hg3 HBO.out.1); have HB3 := Aside0.mk (Below.grown HB1.out hg3 HB1.out.size (fun k hk => by cases hk; rw [HBE.out]; exact Nat.le_refl _)); have HSZ3 := Aside0.mk (Nat.le_trans HSZ1.out hg3.size); clear hm3 hg3)
                              | fail)
                            go_roundw
                            case rel => exact ⟨i + 1, _, _, by go_num, hlt, ⟨by have := HKL.out; have h1 := addK_len ks2 y; omega⟩, ⟨addK_nodup HND2.out _⟩, HH2, HM3, HO3, HB3, HSZ3⟩
                            case measure => simp [intOf]; omega
                          · have HH2 := Aside0.mk (show decP (l.drop (i + 1)) least ks2 f2 = FD by have h := HH.out; rwa [if_neg hxl] at h)
                            have d1 : (x == least) = false := beq_eq_false_iff_ne.2 hxl
                            clear HH hxl
                            go_wp2
                            go_roundw
                            case rel => exact ⟨i + 1, _, _, by go_num, hlt, ⟨by have := HKL.out; omega⟩, HND2, HH2, HM1, HO1, HB1, HSZ1⟩
                            case measure => simp [intOf]; omega
                        · have HFE := Aside0.mk (show (ks2, f2) = FD by
                            have h := HF.out
                            rw [List.drop_eq_nil_of_le (by omega)] at h
                            exact h)
                          have hle : l.length ≤ i := by omega
                          go_wp2
                          go_roundg k1
                          case measure => have := HKK.out; omega
                          case rel => exact ⟨ks2, f2, out ++ [least], ⟨by have h := HN.out; rw [← HFE.out] at h; exact h⟩, ⟨by have := HKK.out; omega⟩, HND2, HM, HO, HB, HSZ⟩
                    · simp only [if_neg hgd] at H
                      cases H
                · intro x w7 cnt2 hwx hwf hlx hrg7 hlt7 hg7 hen
                  have HRG7 := Aside0.mk hrg7
                  have HO7 := Aside0.mk (own_row HO.out hg7 HON.out)
                  have HB7 := Aside0.mk (Below.grown HB.out hg7 HB.out.size (fun k hk => by cases hk; exact HRR.out))
                  have HS7 := Aside0.mk (Nat.le_trans HSZ.out hg7.size)
                  have HLT := Aside0.mk (show w7.rangeLeft b rr < wr.rangeLeft b rr by rw [hrg7.left_eq, HRG.out.left_eq]; exact hlt7)
                  have HXK := Aside0.mk hlx
                  have HWX := Aside0.mk hwx
                  clear hrg7 hlt7 hg7 HRG HO HB HSZ hlx hwf hwx
                  by_cases hf0 : f x = 0
                  · have HF0 := Aside0.mk hf0
                    cases sm with
                    | false =>
                      have HS2 := Aside0.mk (HS.out.take HWX.out HXK.out hf0 (.inl rfl))
                      go_wp2
                      go_roundw
                      case rel => exact ⟨x, true, _, cnt2, rfl, rfl, HRG7, HS2, HO7, HB7, HS7⟩
                      case measure => exact HLT.out
                    | true =>
                      by_cases hxl : x < least
                      · have HS2 := Aside0.mk (HS.out.take HWX.out HXK.out hf0 (.inr hxl))
                        go_wp2
                        go_roundw
                        case rel => exact ⟨x, true, _, cnt2, rfl, rfl, HRG7, HS2, HO7, HB7, HS7⟩
                        case measure => exact HLT.out
                      · have HS2 := Aside0.mk (HS.out.stay (x := x) (.inr ⟨rfl, by omega⟩))
                        have hlx2 : least ≤ x := by omega
                        go_wp2
                        go_roundw
                        case rel => exact ⟨least, true, _, cnt2, rfl, rfl, HRG7, HS2, HO7, HB7, HS7⟩
                        case measure => exact HLT.out
                  · have HS2 := Aside0.mk (HS.out.stay (x := x) (.inl hf0))
                    have d1 : (f x == 0) = false := beq_eq_false_iff_ne.2 hf0
                    clear hf0
                    go_wp2
                    go_roundw
                    case rel => exact ⟨least, sm, _, cnt2, rfl, rfl, HRG7, HS2, HO7, HB7, HS7⟩
                    case measure => exact HLT.out
end Go.Proofs.Ytlgkcjkicankmaa.Lk
