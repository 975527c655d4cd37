/- The law FnChains of the given program: it answers true at every input that its statement speaks of. Part 2 of 7: words, walks of the functions (printed by programs of this session), the plain law, the row. -/
import Derived.Test.YtlekeiokdmnboaaKFnChains0
section
/- append(b, s...) of a string to a row that the call was given: where the answer lies: in the row's own block, or in a new one. -/
namespace Go.Proofs.Ytlekeiokdmnboaa.ApStr
open Go Go.RowKit Go.Proofs.YtlekeiokdmnboaaW.PrintWords
section
variable {P : Program}
theorem run_at (w : World) (base : Nat) (t u ty e : TypeId) (i : TypeInfo) (ht : P.underlying t = some (.slice e)) (hu : P.underlying u = some .string) (hi : P.info? e = some i) (hz : i.zero = some (.int .u8 0))
    (hsize : i.size = 1) (hby : i.bytes = 1) (v : Value) (n : Nat) (xs : List Value) (hown : w.ownsRow base e 1 v n xs) (s : ByteArray)
    (h63 : n + s.size ≤ maxLen) (hbytes : n + s.size ≤ 140737488355328) (v' : Value) (w' : World) (hr : (Builtin.append_ #[t, u] ty #[v, .string s]).run P w = .ok v' w') :
    v'.ownBlock = v.ownBlock ∨ ∃ b, v'.ownBlock = some b ∧ w.heap.size ≤ b := by
  have hsmall : n + s.size ≤ 9223372036854775807 := by simp only [maxLen] at h63; omega
  have hxl : xs.length = n := by simpa using hown.1
  rcases hown.2 with ⟨rfl, rfl⟩ | ⟨g, cap, cur, rfl, hbg, hg, hnc, hcm, hcs, htake⟩
  · have hnil : xs = [] := List.eq_nil_of_length_eq_zero hxl
    subst hnil
    obtain ⟨v2, w2, hr2, ho2, _, _⟩ := Lib.run_append_own_string (P := P) w w.heap.size t u ty e i ht hu hi hz hsize hby (.slice none 0 0) 0 [] (World.ownsRow_nil w _ e 1) s h63 hbytes (Nat.le_refl _)
    rw [hr] at hr2
    injection hr2 with e1 e2
    subst e1
    rcases own_base' ho2 with h | h
    · exact .inl h
    · exact .inr h
  · have hcs2 : cur.size = cap := by simpa using hcs
    by_cases hroom : n + s.size ≤ cap
    · have hfit : n + s.size ≤ cur.size := by omega
      have hr2 := Lib.run_append_room_string (P := P) w t u ty e i ht hu hi hsize g n cap cur hg s hroom hfit
      rw [hr] at hr2
      injection hr2 with e1 e2
      subst e1
      exact .inl (by simp [Value.ownBlock])
    · have hr2 := Lib.run_append_grow_string (P := P) w t u ty e i (.int .u8 0) ht hu hi hz ⟨g, 0, none⟩ n cap xs (by rw [hsize]; simpa using hxl) (hown.cells (g := g) rfl) s (by omega) (by omega) (by rw [hby]; exact growslice_fits (by omega) (by omega))
      rw [hr] at hr2
      injection hr2 with e1 e2
      subst e1
      exact .inr ⟨_, rfl, Nat.le_refl _⟩
variable {ops : Array Oper} {rest : List Oper} {o : Oper} {a : Act} {Q : Exit → Act → World → Prop}
theorem append_str_at {w0 W : World} (base : Nat) (hgd : o.guard = none) (s x : Operand) (t u e : TypeId)
    (ho : o.op = .call { callee := .builtin .append, args := #[s, x], argTypes := #[t, u] })
    (ht : P.underlying t = some (.slice e)) (hu : P.underlying u = some .string) (hinfo : (P.info? e).map (fun i => (i.zero, i.size, i.bytes)) = some (some (.int .u8 0), 1, 1))
    (v : Value) (xs : List Int) (y : ByteArray) (ok : Nat → Prop) (hs : a.eval s = v) (hx : a.eval x = .string y)
    (HO : (Kd.int .u8).R e W base ok v xs) (HB : Below base w0 W) (hf : ∀ k, W.heap.size ≤ k → ok k) (hbase : base ≤ W.heap.size) (hl : xs.length + y.size ≤ 140737488355328)
    (h : ∀ v1 w1, (Kd.int .u8).R e w1 base ok v1 (xs ++ bytesOf y) → Below base w0 w1 → W.grownBy w1 v.ownBlock → (v1.ownBlock = v.ownBlock ∨ ∃ b, v1.ownBlock = some b ∧ W.heap.size ≤ b) → wpList P ops Q rest (a.put o.dst v1) w1) :
    wpList P ops Q (o :: rest) a W := by
  obtain ⟨i0, hi, hzz⟩ := Option.map_eq_some_iff.1 hinfo
  simp only [Prod.mk.injEq] at hzz
  obtain ⟨hz0, hz1, hz2⟩ := hzz
  have HO1 := Kd.own_of_R HO
  refine wpList_plain hgd fun K hK => ?_
  obtain ⟨v1, w1, hr, hown, hg, _⟩ := Lib.run_append_own_string (P := P) W base t u o.type e i0 ht hu hi hz0 hz1 hz2 v xs.length (encs (Value.int .u8) xs) HO1 y (by simp only [maxLen]; omega) hl hbase
  have hat := run_at W base t u o.type e i0 ht hu hi hz0 hz1 hz2 v xs.length (encs (Value.int .u8) xs) HO1 y (by simp only [maxLen]; omega) hl v1 w1 hr
  unfold Oper.wp execOp
  simp only [ho, resolve, invoke, builtin, Sem.run_bind, Sem.run_pure, Result.andThen_ok, List.map_toArray, List.map_cons, List.map_nil, hs, hx, hr]
  have hl2 : (xs ++ bytesOf y).length = xs.length + y.size := by rw [List.length_append, bytesOf_length]
  have hc : encs (Value.int .u8) (xs ++ bytesOf y) = encs (Value.int .u8) xs ++ Lib.strCells y := by
    simp [encs, bytesOf, Lib.strCells]
  refine hK _ _ (h v1 w1 (Kd.R_of_own (by rw [hl2, hc]; exact hown) (fun k hk => ?_)) (HB.grown hg hbase (own_base HO1)) hg hat)
  rcases hat with hat | ⟨b, hb, hle⟩
  · exact HO.1 k (hat ▸ hk)
  · rw [hb] at hk
    injection hk with hk
    exact hf k (by omega)
end
/-- Texts that are read lie in no block whose cells are no texts. -/
theorem far_str {W : World} {g t : Nat} {cs : Array Value} {fr : Nat × Nat} {A : Option Addr} {n : Nat} {xs : List ByteArray} (hb : W.heap[g]? = some (.cells cs t fr)) (hc : ∀ u ∈ cs.toList, ∀ s, u ≠ .string s) (h : Kd.C Kd.string W A n xs) : ∀ ad, A = some ad → 0 < n → ad.block ≠ g := by
  intro ad he hn hg
  obtain ⟨hl, _, hcell⟩ := h
  obtain ⟨ad', rfl, hx⟩ := hcell hn
  injection he with he
  subst he
  obtain ⟨c, hsz, hk, hcc⟩ := hx 0 _ (List.getElem?_eq_getElem (by omega))
  have hk2 : c = [.string xs[0]] := hk
  rw [hk2] at hcc
  have h0 := hcc 0 _ rfl
  have hb2 : W.heap[(ad'.add (0 * Kd.string.sz + 0)).block]? = some (.cells cs t fr) := by rw [add_block, hg]; exact hb
  unfold World.cell? at h0
  rw [hb2] at h0
  dsimp only at h0
  split at h0
  · cases h0
  · exact hc _ (Array.mem_toList_iff.2 (Array.mem_of_getElem? h0)) _ rfl
end Go.Proofs.Ytlekeiokdmnboaa.ApStr
end
