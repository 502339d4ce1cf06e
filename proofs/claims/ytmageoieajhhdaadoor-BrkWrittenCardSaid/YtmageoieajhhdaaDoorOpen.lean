/- What comes in, opened: whatever the model reads as data of a type (numbers, bools, strings, slices, structs, arrays of such, one in the other) is an element of the kind that the walks speak of. -/
import Derived.Test.YtmageoieajhhdaaDoorWWords
import Derived.Test.YtmageoieajhhdaaDoorWArr
import Derived.Deep.Slices
import Derived.OpenShut
import Derived.SizedLaws
namespace Go.Proofs.YtmageoieajhhdaaDoor.Open
open Go.RowKit Go.Proofs.YtmageoieajhhdaaDoorW.PrintWords Go.ChangeShapes Go.WideShapes

/-- every reading of type t is of kind k, and has B -/
structure Opens {α : Type} (P : Program) (t : TypeId) (k : Kd α) (B : α → Prop) : Prop where mk ::
  out : ∀ (H : Type) (enc : TypeId × Value → H) (w : World) (base : Nat) (spare : Nat → Bool) (held : Bool) (fuel : Nat) (cs : List Value) (x : DataW H × List MemPlace),
    DataW.trod enc P w base spare held fuel t cs = some x → (∀ n ∈ x.1.weights P t, n ≤ 140737488351232) → ∃ a : α, k.K w a cs ∧ B a

theorem Opens.imp {α : Type} {P : Program} {t : TypeId} {k : Kd α} {B B' : α → Prop} (h : Opens P t k B) (hB : ∀ a, B a → B' a) : Opens P t k B' := by
  constructor
  intro H enc w base spare held fuel cs x hx hw
  obtain ⟨a, h1, h2⟩ := h.out H enc w base spare held fuel cs x hx hw
  exact ⟨a, h1, hB a h2⟩

theorem opens_int {P : Program} {t : TypeId} {k : IntKind} (hu : P.underlying t = some (.int k)) : Opens P t (Kd.int k) (fun n => (Lit.int k n).wf = true) := by
  constructor
  intro H enc w base spare held fuel cs x hx _
  obtain ⟨n, rfl, rfl, hn⟩ := DataW.trod_int hu hx
  exact ⟨n, rfl, hn⟩

theorem opens_bool {P : Program} {t : TypeId} (hu : P.underlying t = some .bool) : Opens P t Kd.bool (fun _ => True) := by
  constructor
  intro H enc w base spare held fuel cs x hx _
  obtain ⟨n, rfl, rfl⟩ := DataW.trod_bool hu hx
  exact ⟨n, rfl, trivial⟩

theorem opens_string {P : Program} {t : TypeId} (hu : P.underlying t = some .string) : Opens P t Kd.string (fun s => s.size ≤ 140737488351232) := by
  constructor
  intro H enc w base spare held fuel cs x hx hw
  obtain ⟨s, rfl, rfl, hs⟩ := DataW.trod_string hu hx
  refine ⟨s, rfl, ?_⟩
  have := hw s.data.toList.length (by simp [DataW.weights])
  rwa [Array.length_toList] at this

theorem opens_iso {α β : Type} {P : Program} {t : TypeId} {k : Kd α} {B : α → Prop} (f : β → α) (g : α → β) (hfg : ∀ a, f (g a) = a) (h : Opens P t k B) : Opens P t (Kd.iso k f) (fun b => B (f b)) := by
  constructor
  intro H enc w base spare held fuel cs x hx hw
  obtain ⟨a, h1, h2⟩ := h.out H enc w base spare held fuel cs x hx hw
  refine ⟨g a, ?_, ?_⟩
  · show k.K w (f (g a)) cs
    rw [hfg]; exact h1
  · show B (f (g a))
    rw [hfg]; exact h2

theorem weightsAll_mem {H : Type} {P : Program} {e : TypeId} : ∀ {ds : List (DataW H)} {d : DataW H}, d ∈ ds → ∀ n ∈ d.weights P e, n ∈ DataW.weightsAll P e ds
  | d0 :: ds, d, hd, n, hn => by
    simp only [DataW.weightsAll, List.mem_append]
    rcases List.mem_cons.1 hd with rfl | h
    · exact .inl hn
    · exact .inr (weightsAll_mem h n hn)
  | [], _, hd, _, _ => by simp at hd

/-- a slice: its length, and its elements -/
theorem opens_slice {α : Type} {P : Program} {t e : TypeId} {k : Kd α} {B : α → Prop} (hu : P.underlying t = some (.slice e)) (hC : P.cellsOf e = k.sz) (h : Opens P e k B) :
    Opens P t (Kd.slice e k) (fun l => l.length ≤ 9223372036854775807 ∧ l.length * P.bytesOf e ≤ 140737488351232 ∧ ∀ a ∈ l, B a) := by
  constructor
  intro H enc w base spare held fuel cs x hx hw
  rcases DataW.trod_slice hu hx with ⟨rfl, rfl⟩ | ⟨a, len, cap, elems, rest, n, _, rfl, rfl, hb, hl, hm, hlen, hel, hsp, hns⟩
  · exact ⟨[], ⟨none, 0, rfl, Nat.le_refl _, rfl, by simp, fun h => absurd h (Nat.lt_irrefl 0)⟩, by simp, by simp, by simp⟩
  · simp only [DataW.weights, hu] at hw
    have hm' : cap ≤ 9223372036854775807 := by unfold maxLen at hm; omega
    have hbytes : (elems.length + rest.length) * P.bytesOf e ≤ 140737488351232 := by simpa using hw _ (List.mem_cons_self ..)
    have hex : ∀ i, i < len → ∃ b : α, B b ∧ ∃ c, c.length = k.sz ∧ k.K w b c ∧ ∀ j u, c[j]? = some u → w.cell? (a.add (i * k.sz + j)) = some u := by
      intro i hi
      have h1 := hel i hi
      rw [List.getElem?_eq_getElem (by omega)] at h1
      obtain ⟨cs', hc, ht⟩ := Option.bind_eq_some_iff.1 h1
      have hmem : elems[i].1 ∈ elems.map (·.1) := List.mem_map.2 ⟨_, List.getElem_mem _, rfl⟩
      obtain ⟨b, hk, hB⟩ := h.out H enc w base spare held n cs' _ ht (fun m hm => hw m (List.mem_cons_of_mem _ (List.mem_append_left _ (weightsAll_mem hmem m hm))))
      obtain ⟨_, hcl, hat⟩ := World.cells?_some hc
      rw [hC] at hcl hat
      refine ⟨b, hB, cs', hcl, hk, fun j u hu' => ?_⟩
      have hj : j < cs'.length := (List.getElem?_eq_some_iff.1 hu').1
      have := hat j (by omega)
      rw [hC] at *
      rw [← Go.Deep.add_add, this, hu']
    have hf : ∀ m, m ≤ len → ∃ l : List α, l.length = m ∧ (∀ b ∈ l, B b) ∧ ∀ i b, l[i]? = some b → ∃ c, c.length = k.sz ∧ k.K w b c ∧ ∀ j u, c[j]? = some u → w.cell? (a.add (i * k.sz + j)) = some u := by
      intro m
      induction m with
      | zero => exact fun _ => ⟨[], rfl, by simp, by simp⟩
      | succ m ih =>
        intro hm2
        obtain ⟨l, hl1, hl2, hl3⟩ := ih (by omega)
        obtain ⟨b, hb1, hb2⟩ := hex m (by omega)
        refine ⟨l ++ [b], by simp [hl1], ?_, ?_⟩
        · intro y hy
          rcases List.mem_append.1 hy with h' | h'
          · exact hl2 y h'
          · rw [List.mem_singleton.1 h']; exact hb1
        · intro i y hy
          by_cases hi : i < l.length
          · rw [List.getElem?_append_left hi] at hy
            exact hl3 i y hy
          · rw [List.getElem?_append_right (by omega)] at hy
            have h0 : i - l.length = 0 := by
              have := (List.getElem?_eq_some_iff.1 hy).1
              simp at this; omega
            rw [h0] at hy
            simp at hy
            subst hy
            have : i = m := by omega
            subst this
            exact hb2
    obtain ⟨l, hl1, hl2, hl3⟩ := hf len (Nat.le_refl _)
    refine ⟨l, ⟨some a, cap, by rw [hl1], by omega, rfl, by omega, fun _ => ⟨a, rfl, hl3⟩⟩, by omega, ?_, hl2⟩
    exact Nat.le_trans (Nat.mul_le_mul_right _ (by omega)) hbytes

/-- the fields of a struct, from one on -/
structure OpensF {α : Type} (P : Program) (fs : List Field) (off : Nat) (k : Kd α) (B : α → Prop) : Prop where mk ::
  out : ∀ (H : Type) (enc : TypeId × Value → H) (w : World) (base : Nat) (spare : Nat → Bool) (held : Bool) (fuel : Nat) (cs : List Value) (xs : List (DataW H × List MemPlace)),
    cs.length = off + k.sz → xs.length = fs.length →
    (∀ (i : Nat) (f : Field), fs[i]? = some f → DataW.trod enc P w base spare held fuel f.type ((cs.drop f.offset).take (P.cellsOf f.type)) = xs[i]?) →
    (∀ n ∈ DataW.weightsEach P (fs.map (·.type)) (xs.map (·.1)), n ≤ 140737488351232) → ∃ a : α, k.K w a (cs.drop off) ∧ B a

theorem opensF_one {α : Type} {P : Program} {f : Field} {k : Kd α} {B : α → Prop} (h : Opens P f.type k B) (hC : P.cellsOf f.type = k.sz) : OpensF P [f] f.offset k B := by
  constructor
  intro H enc w base spare held fuel cs xs hl hx hf hw
  match xs, hx with
  | [x], _ =>
    have h0 := hf 0 f rfl
    rw [hC, List.take_of_length_le (by rw [List.length_drop]; omega)] at h0
    exact h.out H enc w base spare held fuel _ x h0 (fun n hn => hw n (by simp [DataW.weightsEach, hn]))

theorem opensF_cons {α β : Type} {P : Program} {f : Field} {fs : List Field} {k : Kd α} {k' : Kd β} {B : α → Prop} {B' : β → Prop} (h : Opens P f.type k B) (hC : P.cellsOf f.type = k.sz) (h' : OpensF P fs (f.offset + k.sz) k' B') :
    OpensF P (f :: fs) f.offset (Kd.pair k k') (fun x => B x.1 ∧ B' x.2) := by
  constructor
  intro H enc w base spare held fuel cs xs hl hx hf hw
  match xs, hx with
  | x :: xs, hx =>
    have hsz : (Kd.pair k k').sz = k.sz + k'.sz := rfl
    have h0 := hf 0 f rfl
    rw [hC] at h0
    obtain ⟨a, ha, hB⟩ := h.out H enc w base spare held fuel _ x h0 (fun n hn => hw n (by simp [DataW.weightsEach, hn]))
    obtain ⟨b, hb, hB'⟩ := h'.out H enc w base spare held fuel cs xs (by omega) (by simpa using hx) (fun i g hg => by simpa using hf (i + 1) g (by simpa using hg)) (fun n hn => hw n (by simp [DataW.weightsEach, hn]))
    refine ⟨(a, b), ⟨_, _, ?_, ha, hb⟩, hB, hB'⟩
    rw [← List.drop_drop, List.take_append_drop]

theorem opens_struct {α : Type} {P : Program} {t : TypeId} {fs : Array Field} {k : Kd α} {B : α → Prop} (hu : P.underlying t = some (.struct fs)) (hC : P.cellsOf t = k.sz) (h : OpensF P fs.toList 0 k B) : Opens P t k B := by
  constructor
  intro H enc w base spare held fuel cs x hx hw
  obtain ⟨xs, n, _, rfl, hlen, hxl, hf⟩ := DataW.trod_struct hu hx
  simp only [DataW.weights, hu] at hw
  have := h.out H enc w base spare held n cs xs (by omega) (by simpa using hxl) (fun i f hg => hf i f (by simpa using hg)) (by simpa using hw)
  simpa using this

/-- an array -/
theorem opens_array {α : Type} {P : Program} {t e : TypeId} {n : Nat} {k : Kd α} {B : α → Prop} (hu : P.underlying t = some (.array n e)) (hs : 0 < k.sz) (hC : P.cellsOf e = k.sz) (hC' : P.cellsOf t = n * k.sz) (h : Opens P e k B) :
    Opens P t (Kd.arr n k hs) (fun l => l.length = n ∧ ∀ a ∈ l, B a) := by
  constructor
  intro H enc w base spare held fuel cs x hx hw
  obtain ⟨xs, m, _, rfl, hlen, hxl, hf⟩ := DataW.trod_array hu hx
  simp only [DataW.weights, hu] at hw
  have hex : ∀ i, i < n → ∃ b : α, B b ∧ k.K w b ((cs.drop (i * k.sz)).take k.sz) := by
    intro i hi
    have h1 := hf i hi
    rw [List.getElem?_eq_getElem (by omega), hC] at h1
    have hmem : xs[i].1 ∈ xs.map (·.1) := List.mem_map.2 ⟨_, List.getElem_mem _, rfl⟩
    obtain ⟨b, hk, hB⟩ := h.out H enc w base spare held m _ _ h1 (fun q hq => hw q (weightsAll_mem hmem q hq))
    exact ⟨b, hB, hk⟩
  have hf : ∀ m, m ≤ n → ∃ l : List α, l.length = m ∧ (∀ b ∈ l, B b) ∧ ∀ i b, l[i]? = some b → k.K w b ((cs.drop (i * k.sz)).take k.sz) := by
    intro m
    induction m with
    | zero => exact fun _ => ⟨[], rfl, by simp, by simp⟩
    | succ m ih =>
      intro hm2
      obtain ⟨l, hl1, hl2, hl3⟩ := ih (by omega)
      obtain ⟨b, hb1, hb2⟩ := hex m (by omega)
      refine ⟨l ++ [b], by simp [hl1], ?_, ?_⟩
      · intro y hy
        rcases List.mem_append.1 hy with h' | h'
        · exact hl2 y h'
        · rw [List.mem_singleton.1 h']; exact hb1
      · intro i y hy
        by_cases hi : i < l.length
        · rw [List.getElem?_append_left hi] at hy
          exact hl3 i y hy
        · rw [List.getElem?_append_right (by omega)] at hy
          have h0 : i - l.length = 0 := by
            have := (List.getElem?_eq_some_iff.1 hy).1
            simp at this; omega
          rw [h0] at hy
          simp at hy
          subst hy
          have : i = m := by omega
          subst this
          exact hb2
  obtain ⟨l, hl1, hl2, hl3⟩ := hf n (Nat.le_refl _)
  exact ⟨l, ⟨hl1, by rw [hl1, hlen, hC'], hl3⟩, hl1, hl2⟩

/-- a slice that is an argument -/
theorem Opens.arg {α : Type} {P : Program} {t e : TypeId} {k : Kd α} {B : List α → Prop} (h : Opens P t (Kd.slice e k) B) {H : Type} {enc : TypeId × Value → H} {w : World} {base : Nat} {spare : Nat → Bool} {held : Bool} {v : Value} {d : DataW H} {ps : List MemPlace}
    {ts : List TypeId} {ds : List (DataW H)} {j : Nat} (hsz : (DataW.weightsEach P ts ds).all (· ≤ reachBytes) = true) (ht : ts[j]? = some t) (hd : ds[j]? = some d) (hv : ∃ A n c, v = .slice A n c) (hx : DataW.Trod enc P w base spare held t v d ps) :
    ∃ (A : Option Addr) (c : Nat) (l : List α), v = .slice A l.length c ∧ l.length ≤ c ∧ k.C w A l.length l ∧ B l := by
  obtain ⟨fuel, hx⟩ := hx
  have hw : ∀ n ∈ d.weights P t, n ≤ 140737488351232 := fun n hn => by
    have h2 : n ≤ reachBytes := of_decide_eq_true (List.all_eq_true.1 hsz _ (DataW.weights_mem_each ht hd n hn))
    exact h2
  obtain ⟨l, ⟨A, c, hcs, hl, hr⟩, hB⟩ := h.out H enc w base spare held fuel _ _ hx hw
  obtain ⟨A', n, c', rfl⟩ := hv
  simp [Value.cells] at hcs
  obtain ⟨rfl, rfl, rfl⟩ := hcs
  exact ⟨_, _, l, rfl, hl, hr, hB⟩

end Go.Proofs.YtmageoieajhhdaaDoor.Open
