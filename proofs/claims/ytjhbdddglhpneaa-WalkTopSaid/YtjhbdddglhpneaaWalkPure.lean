/- Plain laws of the printed functions of package walk: what Next, Last and Top find. -/
import Derived.Test.YtjhbdddglhpneaaPWalkBackx0
import Derived.Test.YtjhbdddglhpneaaPWalkBackx1
import Derived.Test.YtjhbdddglhpneaaPWalkBackx2
namespace Go.Proofs.Ytjhbdddglhpneaa.WalkPure
open Go.RowKit Go.Proofs.YtjhbdddglhpneaaW.PrintWords Go.Proofs.YtjhbdddglhpneaaW.PrintLast Go.Proofs.YtjhbdddglhpneaaW.PrintMore
open Go.Proofs.Ytjhbdddglhpneaa.PWalkBack

/-- is b reached from a -/
def rch (how : Int) (a b : S29) : Bool :=
  if how = 1 then true else if a.f0 = b.f0 then (if how = 2 then decide (b.f1 ≤ a.f1) else if how = 3 then decide (b.f1 < a.f1) else if b.f1 < a.f1 then true else if b.f1 = a.f1 then b.f2 != a.f2 else false) else false

theorem reached_eq (how : Int) (a b : S29) : walk_reached.f a.f0 a.f1 a.f2 b.f0 b.f1 b.f2 how = some (rch how a b) := by
  unfold walk_reached.f rch
  repeat' split
  all_goals rfl

def okArgs (l : List S29) (i how : Int) : Prop := l.length ≤ 200 ∧ 0 ≤ i ∧ i < l.length ∧ 1 ≤ how ∧ how ≤ 4

theorem check_ok {l : List S29} {i how : Int} (h : okArgs l i how) : walk_check.f l i how = some 0 := by
  obtain ⟨h1, h2, h3, h4, h5⟩ := h
  unfold walk_check.f
  rw [if_neg (by omega), if_neg (by omega), if_neg (by omega), if_neg (by omega), if_neg (by omega)]

theorem check_no {l : List S29} {i how : Int} (h : ¬ okArgs l i how) : ∃ e, e ≠ 0 ∧ walk_check.f l i how = some e := by
  unfold walk_check.f
  unfold okArgs at h
  by_cases h1 : (l.length : Int) > 200
  · exact ⟨2, by decide, by rw [if_pos h1]⟩
  · rw [if_neg h1]
    by_cases h2 : i < 0
    · exact ⟨1, by decide, by rw [if_pos h2]⟩
    · rw [if_neg h2]
      by_cases h3 : i ≥ (l.length : Int)
      · exact ⟨1, by decide, by rw [if_pos h3]⟩
      · rw [if_neg h3]
        by_cases h4 : how < 1
        · exact ⟨1, by decide, by rw [if_pos h4]⟩
        · rw [if_neg h4]
          by_cases h5 : how > 4
          · exact ⟨1, by decide, by rw [if_pos h5]⟩
          · exact absurd ⟨by omega, by omega, by omega, by omega, by omega⟩ h

theorem wrap_small {n : Int} (h : -1000 ≤ n ∧ n ≤ 1000) : wrap64 n = n := by unfold wrap64; omega

/-- what Next finds from x on -/
def NextIs (l : List S29) (i how x : Int) (r : Int × Bool × Int) : Prop :=
  (∃ j, r = (j, true, 0) ∧ x ≤ j ∧ j < l.length ∧ rch how (rd_T29 l i) (rd_T29 l j) = true ∧ ∀ m, x ≤ m → m < j → rch how (rd_T29 l i) (rd_T29 l m) = false) ∨
  (r = (0, false, 0) ∧ ∀ m, x ≤ m → m < l.length → rch how (rd_T29 l i) (rd_T29 l m) = false)

theorem next_loop {l : List S29} {i how : Int} (hl : l.length ≤ 200) (hi0 : 0 ≤ i) (hi : i < l.length) (d : Nat) : ∀ (k : Nat) (x : Int), 0 ≤ x → x ≤ l.length → (l.length : Int) - x = d → d < k →
    ∃ r, walk_Next.l0 k l i how x = some r ∧ NextIs l i how x r := by
  induction d with
  | zero =>
    intro k x h0 h1 hd hk
    obtain ⟨k, rfl⟩ : ∃ m, k = m + 1 := ⟨k - 1, by omega⟩
    refine ⟨(0, false, 0), ?_, .inr ⟨rfl, fun m _ _ => by omega⟩⟩
    simp only [walk_Next.l0]
    rw [if_neg (by omega)]
  | succ d ih =>
    intro k x h0 h1 hd hk
    obtain ⟨k, rfl⟩ : ∃ m, k = m + 1 := ⟨k - 1, by omega⟩
    simp only [walk_Next.l0]
    rw [if_pos (by omega), if_pos hi0, if_pos hi, if_pos h0, reached_eq]
    simp only [Option.bind_some]
    cases hb : rch how (rd_T29 l i) (rd_T29 l x) with
    | true => exact ⟨(x, true, 0), by simp, .inl ⟨x, rfl, by omega, by omega, hb, fun m _ _ => by omega⟩⟩
    | false =>
      rw [if_neg (by decide), wrap_small (by omega)]
      obtain ⟨r, hr, h⟩ := ih k (x + 1) (by omega) (by omega) (by omega) (by omega)
      refine ⟨r, hr, ?_⟩
      have key : ∀ m, x ≤ m → (x + 1 ≤ m → rch how (rd_T29 l i) (rd_T29 l m) = false) → rch how (rd_T29 l i) (rd_T29 l m) = false := by
        intro m hm hf
        by_cases e : m = x
        · rw [e]; exact hb
        · exact hf (by omega)
      rcases h with ⟨j, rfl, a, b, c, e⟩ | ⟨rfl, e⟩
      · exact .inl ⟨j, rfl, by omega, b, c, fun m hm hj => key m hm (fun h => e m h hj)⟩
      · exact .inr ⟨rfl, fun m hm hj => key m hm (fun h => e m h hj)⟩

theorem next_ok {l : List S29} {i how : Int} (h : okArgs l i how) (k : Nat) (hk : 300 ≤ k) : ∃ r, walk_Next.f k l i how = some r ∧ NextIs l i how (i + 1) r := by
  obtain ⟨h1, h2, h3, h4, h5⟩ := h
  unfold walk_Next.f
  rw [check_ok ⟨h1, h2, h3, h4, h5⟩]
  simp only [Option.bind_some, if_true]
  rw [wrap_small (by omega)]
  exact next_loop h1 h2 h3 ((l.length : Int) - (i + 1)).toNat k (i + 1) (by omega) (by omega) (by omega) (by omega)

theorem next_no {l : List S29} {i how : Int} {e : Int} (he : e ≠ 0) (h : walk_check.f l i how = some e) (k : Nat) : walk_Next.f k l i how = some (0, false, e) := by
  unfold walk_Next.f
  rw [h]
  simp only [Option.bind_some]
  rw [if_neg he]

/-- what Last finds from x downward -/
def LastIs (l : List S29) (i how x : Int) (r : Int × Bool × Int) : Prop :=
  (∃ j, r = (j, true, 0) ∧ 0 ≤ j ∧ j ≤ x ∧ rch how (rd_T29 l j) (rd_T29 l i) = true ∧ ∀ m, j < m → m ≤ x → rch how (rd_T29 l m) (rd_T29 l i) = false) ∨
  (r = (0, false, 0) ∧ ∀ m, 0 ≤ m → m ≤ x → rch how (rd_T29 l m) (rd_T29 l i) = false)

theorem last_loop {l : List S29} {i how : Int} (hl : l.length ≤ 200) (hi0 : 0 ≤ i) (hi : i < l.length) (d : Nat) : ∀ (k : Nat) (x : Int), x < l.length → x + 1 = d → d < k →
    ∃ r, walk_Last.l0 k l i how x = some r ∧ LastIs l i how x r := by
  induction d with
  | zero =>
    intro k x h1 hd hk
    obtain ⟨k, rfl⟩ : ∃ m, k = m + 1 := ⟨k - 1, by omega⟩
    refine ⟨(0, false, 0), ?_, .inr ⟨rfl, fun m _ _ => by omega⟩⟩
    simp only [walk_Last.l0]
    rw [if_neg (by omega)]
  | succ d ih =>
    intro k x h1 hd hk
    obtain ⟨k, rfl⟩ : ∃ m, k = m + 1 := ⟨k - 1, by omega⟩
    simp only [walk_Last.l0]
    rw [if_pos (by omega), if_pos (by omega), if_pos h1, if_pos hi0, if_pos hi, reached_eq]
    simp only [Option.bind_some]
    cases hb : rch how (rd_T29 l x) (rd_T29 l i) with
    | true => exact ⟨(x, true, 0), by simp, .inl ⟨x, rfl, by omega, by omega, hb, fun m _ _ => by omega⟩⟩
    | false =>
      rw [if_neg (by decide), wrap_small (by omega)]
      obtain ⟨r, hr, h⟩ := ih k (x - 1) (by omega) (by omega) (by omega)
      refine ⟨r, hr, ?_⟩
      have key : ∀ m, m ≤ x → (m ≤ x - 1 → rch how (rd_T29 l m) (rd_T29 l i) = false) → rch how (rd_T29 l m) (rd_T29 l i) = false := by
        intro m hm hf
        by_cases e : m = x
        · rw [e]; exact hb
        · exact hf (by omega)
      rcases h with ⟨j, rfl, a, b, c, e⟩ | ⟨rfl, e⟩
      · exact .inl ⟨j, rfl, by omega, by omega, c, fun m hm hj => key m hj (fun h => e m hm h)⟩
      · exact .inr ⟨rfl, fun m hm hj => key m hj (fun h => e m hm h)⟩

theorem last_ok {l : List S29} {i how : Int} (h : okArgs l i how) (k : Nat) (hk : 300 ≤ k) : ∃ r, walk_Last.f k l i how = some r ∧ LastIs l i how (i - 1) r := by
  obtain ⟨h1, h2, h3, h4, h5⟩ := h
  unfold walk_Last.f
  rw [check_ok ⟨h1, h2, h3, h4, h5⟩]
  simp only [Option.bind_some, if_true]
  rw [wrap_small (by omega)]
  exact last_loop h1 h2 h3 i.toNat k (i - 1) (by omega) (by omega) (by omega)

theorem last_no {l : List S29} {i how : Int} {e : Int} (he : e ≠ 0) (h : walk_check.f l i how = some e) (k : Nat) : walk_Last.f k l i how = some (0, false, e) := by
  unfold walk_Last.f
  rw [h]
  simp only [Option.bind_some]
  rw [if_neg he]

theorem begun (k : Nat) (hk : 300 ≤ k) : backstitchkeep4_walkBegun.f k = some true :=
  at_rounds (g := fun k => backstitchkeep4_walkBegun.f k) backstitchkeep4_walkBegun.mono hk (by kernel_rfl)

end Go.Proofs.Ytjhbdddglhpneaa.WalkPure
