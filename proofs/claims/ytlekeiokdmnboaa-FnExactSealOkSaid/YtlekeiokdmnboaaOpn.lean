/- Arguments that a row reads, told in the kinds of the printed text: whatever a type reads as is a value of its kind; plain Lean over any program. -/
import Derived.ChangeArms
import Derived.DataReads
import Derived.Test.YtlekeiokdmnboaaWWords
namespace Go.Proofs.Ytlekeiokdmnboaa.Opn
open Go Go.RowKit Go.Proofs.YtlekeiokdmnboaaW.PrintWords

/-- Whatever reads as type t is a value of kind d; 'good': what the reading shows of it. -/
def Opn (P : Program) (t : TypeId) {α : Type} (d : Kd α) (good : α → Prop) : Prop :=
  P.cellsOf t = d.sz ∧ ∀ {H : Type} {enc : TypeId × Value → H} {w : World} {base : Nat} {sp : Nat → Bool} {held : Bool} {fuel : Nat} {cs : List Value} {x : DataW H × List MemPlace},
    DataW.trod enc P w base sp held fuel t cs = some x → ∃ a, d.K w a cs ∧ good a
/-- The same of fields in line, the first of which lies at offset o. -/
def OpnF (P : Program) (fs : List Field) (o : Nat) {α : Type} (d : Kd α) (good : α → Prop) : Prop :=
  ∀ (H : Type) (enc : TypeId × Value → H) (w : World) (base : Nat) (sp : Nat → Bool) (held : Bool) (fuel : Nat) (cs : List Value),
    cs.length = o + d.sz → (∀ f ∈ fs, ∃ x, DataW.trod enc P w base sp held fuel f.type ((cs.drop f.offset).take (P.cellsOf f.type)) = some x) → ∃ a, d.K w a (cs.drop o) ∧ good a

section
variable {P : Program} {t e : TypeId} {α β : Type}

theorem opn_int {k : IntKind} (ht : P.underlying t = some (.int k)) (hc : P.cellsOf t = 1) : Opn P t (Kd.int k) (fun a => (Lit.int k a).wf = true) :=
  ⟨hc, fun h => by
    obtain ⟨n, rfl, _, hw⟩ := DataW.trod_int ht h
    exact ⟨n, rfl, hw⟩⟩
theorem opn_bool (ht : P.underlying t = some .bool) (hc : P.cellsOf t = 1) : Opn P t Kd.bool (fun _ => True) :=
  ⟨hc, fun h => by
    obtain ⟨b, rfl, _⟩ := DataW.trod_bool ht h
    exact ⟨b, rfl, trivial⟩⟩
theorem opn_string (ht : P.underlying t = some .string) (hc : P.cellsOf t = 1) : Opn P t Kd.string (fun s => s.size ≤ maxLen) :=
  ⟨hc, fun h => by
    obtain ⟨s, rfl, _, hw⟩ := DataW.trod_string ht h
    exact ⟨s, rfl, hw⟩⟩
/-- One after the other, each told of its place. -/
theorem choose_list {γ : Type} (n : Nat) (R : Nat → γ → Prop) (h : ∀ i, i < n → ∃ c, R i c) : ∃ l : List γ, l.length = n ∧ ∀ i c, l[i]? = some c → R i c := by
  induction n with
  | zero => exact ⟨[], rfl, fun i c hc => by simp at hc⟩
  | succ n ih =>
    obtain ⟨l, hl, hr⟩ := ih (fun i hi => h i (by omega))
    obtain ⟨c, hc⟩ := h n (by omega)
    refine ⟨l ++ [c], by simp [hl], fun i d hd => ?_⟩
    by_cases hi : i < n
    · rw [List.getElem?_append_left (by omega)] at hd
      exact hr i d hd
    · have hin : i = n := by
        have := (List.getElem?_eq_some_iff.1 hd).1
        simp at this; omega
      subst hin
      rw [List.getElem?_append_right (by omega)] at hd
      simp [hl] at hd
      subst hd
      exact hc
theorem opn_slice {d : Kd α} {good : α → Prop} (q : Nat) (ht : P.underlying t = some (.slice e)) (hc : P.cellsOf t = 1) (he : Opn P e d good) : Opn P t (Kd.slice q d) (fun l => l.length ≤ maxLen ∧ ∀ a ∈ l, good a) := by
  refine ⟨hc, fun {H enc w base sp held fuel cs x} h => ?_⟩
  rcases DataW.trod_slice ht h with ⟨rfl, _⟩ | ⟨a, len, cap, elems, rest, n, _, rfl, rfl, hb, hl, hm, hlen, hel, _, _⟩
  · exact ⟨[], ⟨none, 0, rfl, Nat.zero_le _, ⟨rfl, by simp, fun h0 => absurd h0 (by simp)⟩⟩, by simp, fun a ha => by simp at ha⟩
  · obtain ⟨l, hll, hr⟩ := choose_list (γ := α) len (fun i c => good c ∧ ∃ cs, cs.length = d.sz ∧ d.K w c cs ∧ ∀ j u, cs[j]? = some u → w.cell? (a.add (i * d.sz + j)) = some u) (fun i hi => by
      have h1 := hel i hi
      rw [List.getElem?_eq_getElem (by omega), Option.bind_eq_some_iff] at h1
      obtain ⟨cs, hcs, htr⟩ := h1
      obtain ⟨c, hk, hg⟩ := he.2 htr
      obtain ⟨_, hlen2, hcell⟩ := World.cells?_some hcs
      refine ⟨c, hg, cs, d.K_len hk, hk, fun j u hu => ?_⟩
      have hj : j < P.cellsOf e := by rw [← hlen2]; exact (List.getElem?_eq_some_iff.1 hu).1
      have h2 := hcell j hj
      rw [hu] at h2
      rw [← h2, he.1]
      congr 1
      unfold Addr.add
      by_cases z1 : i * d.sz = 0 <;> by_cases z2 : j = 0 <;> simp [z1, z2, Nat.add_assoc])
    refine ⟨l, ⟨some a, cap, by rw [hll], by omega, ⟨rfl, ?_, fun _ => ⟨a, rfl, fun j p hp => ?_⟩⟩⟩, by omega, fun c hc' => ?_⟩
    · simp only [maxLen] at hm; omega
    · obtain ⟨_, cs, h1, h2, h3⟩ := hr j p hp
      exact ⟨cs, h1, h2, h3⟩
    · obtain ⟨i, hi⟩ := List.getElem?_of_mem hc'
      exact (hr i c hi).1
theorem opnF_one {d : Kd α} {good : α → Prop} {f : Field} {o : Nat} (ho : f.offset = o) (hf : Opn P f.type d good) : OpnF P [f] o d good := fun H enc w base sp held fuel cs hlen hx => by
  obtain ⟨x, hx⟩ := hx f (by simp)
  obtain ⟨a, hk, hg⟩ := hf.2 hx
  refine ⟨a, ?_, hg⟩
  rw [ho, hf.1, List.take_of_length_le (by simp [hlen])] at hk
  exact hk
theorem opnF_cons {d : Kd α} {d2 : Kd β} {good : α → Prop} {good2 : β → Prop} {f : Field} {fs : List Field} {o : Nat} (ho : f.offset = o) (hf : Opn P f.type d good) (hs : OpnF P fs (o + d.sz) d2 good2) :
    OpnF P (f :: fs) o (Kd.pair d d2) (fun x => good x.1 ∧ good2 x.2) := fun H enc w base sp held fuel cs hlen hx => by
  obtain ⟨x, hx1⟩ := hx f (by simp)
  obtain ⟨a, hk, hg⟩ := hf.2 hx1
  obtain ⟨b, hk2, hg2⟩ := hs H enc w base sp held fuel cs (by rw [hlen]; show o + (d.sz + d2.sz) = _; omega) (fun g hg => hx g (by simp [hg]))
  rw [ho, hf.1] at hk
  refine ⟨(a, b), ⟨(cs.drop o).take d.sz, cs.drop (o + d.sz), ?_, hk, hk2⟩, hg, hg2⟩
  rw [← List.drop_drop, List.take_append_drop]
theorem opn_struct {d : Kd α} {good : α → Prop} {fs : List Field} (ht : P.underlying t = some (.struct fs.toArray)) (hc : P.cellsOf t = d.sz) (h : OpnF P fs 0 d good) (f : β → α) (g : α → β) (hfg : ∀ a, f (g a) = a) : Opn P t (Kd.iso d f) (fun x => good (f x)) := by
  refine ⟨hc, fun {H enc w base sp held fuel cs x} hx => ?_⟩
  obtain ⟨xs, n, rfl, rfl, hlen, hsz, hel⟩ := DataW.trod_struct ht hx
  obtain ⟨a, hk, hg⟩ := h H enc w base sp held n cs (by rw [hlen, hc, Nat.zero_add]) (fun q hq => by
    obtain ⟨i, hi⟩ := List.getElem?_of_mem hq
    have h1 := hel i q (by simpa using hi)
    have hi2 : i < xs.length := by
      have := (List.getElem?_eq_some_iff.1 hi).1
      simp at hsz; omega
    rw [List.getElem?_eq_getElem hi2] at h1
    exact ⟨_, h1⟩)
  refine ⟨g a, ?_, ?_⟩
  · show d.K w (f (g a)) cs
    rw [hfg]; simpa using hk
  · show good (f (g a))
    rw [hfg]; exact hg
end
end Go.Proofs.Ytlekeiokdmnboaa.Opn
