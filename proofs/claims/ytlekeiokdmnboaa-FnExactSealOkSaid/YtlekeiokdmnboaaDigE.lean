/- slices.Chunk itself, and what stays of a block of cells. -/
import Derived.Test.YtlekeiokdmnboaaDigC
namespace Go.Proofs.Ytlekeiokdmnboaa.Dig
open Go.RowKit Go.Shelf Go.Proofs.YtlekeiokdmnboaaW.PrintWords Go.Proofs.YtlekeiokdmnboaaW.PrintLast Go.Proofs.YtlekeiokdmnboaaW.PrintMore Go.Proofs.Ytlekeiokdmnboaa.Sha
set_option linter.unusedVariables false
set_option linter.unusedSimpArgs false
theorem chunk_calls (A : Option Addr) (n c : Nat) (w : World) :
    Calls Try.prog 66 #[.slice A n c, .int .i64 64] w fun e w' => e = .returned (.func (.func 88) #[] #[.pointer (some ⟨w.heap.size, 0, none⟩), .pointer (some ⟨w.heap.size + 1, 0, none⟩)]) ∧
      (w.alloc (.cells #[.slice A n c] 36)).alloc (.cells #[.int .i64 64] 3) = w' := by
  have hmf : ∀ (fn : Fn) (first cap : Array Value) (w : World), (Instr.makeFunc fn first cap).run Try.prog w = .ok (.func fn first cap) w := fun _ _ _ _ => rfl
  go_enter Try.func66, Try.ntmps66
  go_wp2
  go_ret
  exact ⟨rfl, rfl⟩
/-- A block of cells abides what the loop keeps book in. -/
theorem blk_own {W W' : World} {b : Nat} {c : Array Value} {t : TypeId} {fr : Nat × Nat} {row : Option Nat} (h : W.heap[b]? = some (.cells c t fr)) (hg : W.grownBy W' row) (hr : ∀ r, row = some r → ∃ o : Obj, W.heap[r]? = some o ∧ o.isCells = false) : W'.heap[b]? = some (.cells c t fr) := by
  refine (hg.block b (Array.getElem?_eq_some_iff.1 h).1 (fun e => ?_)).trans h
  obtain ⟨o, ho, hc⟩ := hr b e.symm
  rw [h] at ho
  cases ho
  cases hc
theorem keeps2_b {sb nb : Nat} {w : World} (h1 : sb < w.heap.size) (h2 : nb < w.heap.size) (W : World) (l : Nat) (o o' : Obj) (hl : w.heap.size ≤ l) (h : W.heap[l]? = some o) (_ : o.isCells = false) (_ : o.isWalk = false) : Keeps2 sb nb W (W.putObj l o') :=
  ⟨World.putObj_heap_other (by omega), World.putObj_heap_other (by omega)⟩
theorem chunk_stops (n sb nb pb m L cap : Nat) (hn : 1 ≤ n) (hm : 64 * m ≤ 140737488355328) (hcap : 64 * m ≤ cap) (hL : L = 64 * m) (w : World) (h1 : sb < w.heap.size) (h2 : nb < w.heap.size)
    (hs : w.heap[sb]? = some (.cells #[.slice (some ⟨pb, 0, none⟩) L cap] 36 (0, 0))) (hc : w.heap[nb]? = some (.cells #[.int .i64 64] 3 (0, 0))) :
    SeqStopsK Fence.wide n Try.prog 88 #[.pointer (some ⟨sb, 0, none⟩), .pointer (some ⟨nb, 0, none⟩)] (fun x : Fin m => #[.slice (some ⟨pb, 64 * x.1, none⟩) 64 64]) (Keeps2 sb nb) (fun ys => ys = List.finRange m) (fun _ => True) m w := fun l J Jx W hW hJ hJx hY h0 => by
  have hs' : W.cell? ⟨sb, 0, none⟩ = some (.slice (some ⟨pb, 0, none⟩) L cap) := by simp [World.cell?, hW.block sb h1, hs]
  have hc' : W.cell? ⟨nb, 0, none⟩ = some (.int .i64 64) := by simp [World.cell?, hW.block nb h2, hc]
  refine (chunk1_in Fence.wide n trivial rfl hn l sb nb pb m cap hm hcap J Jx W hJ (fun pre x W1 hj hp => hY pre x W1 hj hp) L hL hs' hc' h0).mono ?_
  rintro e W' ⟨hv, ⟨ys, rfl, hj⟩ | ⟨pre, hj⟩⟩
  · exact ⟨hv, .inl ⟨_, rfl, hj⟩⟩
  · exact ⟨hv, .inr ⟨pre, trivial, hj⟩⟩
theorem byte_row {w : World} {base e : Nat} {ok : Nat → Prop} {v : Value} {p : List Int} (ho : Kd.R (Kd.int .u8) e w base ok v p) (h0 : 0 < p.length) :
    ∃ g cap cur, v = .slice (some ⟨g, 0, none⟩) p.length cap ∧ p.length ≤ cap ∧ base ≤ g ∧ w.heap[g]? = some (.cells cur e (0, 0)) ∧ ∀ j, j < p.length → cur[j]? = some (.int .u8 (p.getD j 0)) := by
  obtain ⟨inner, hown⟩ := Kd.R_own ho
  obtain ⟨A, c, rfl, hlc, hC⟩ := Kd.R_reads ho
  rcases hown.2 with ⟨_, hn⟩ | ⟨g, cap, cur, hv, hb, hh, hnc, _⟩
  · omega
  · injection hv with hA _ hcap
    subst hA hcap
    refine ⟨g, c, cur, rfl, hlc, hb, hh, fun j hj => ?_⟩
    obtain ⟨ad, e1, hc⟩ := hC.2.2 h0
    injection e1 with e1
    subst e1
    obtain ⟨cs, _, hk, hcell⟩ := hc j _ (List.getElem?_eq_getElem hj)
    have hk' : cs = [Value.int .u8 p[j]] := hk
    have h1 := hcell 0 (.int .u8 p[j]) (by rw [hk']; rfl)
    rw [add_plain] at h1
    have h2 : w.cell? ⟨g, j * 1 + 0, none⟩ = some (.int .u8 p[j]) := h1
    rw [Nat.mul_one, Nat.add_zero] at h2
    simp only [World.cell?, hh] at h2
    rw [List.getD_eq_getElem?_getD, List.getElem?_eq_getElem hj]
    simpa using h2
theorem fold_range (m : Nat) (f : Sha.H8 → Nat → Sha.H8) (s : Sha.H8) : (List.finRange m).foldl (fun h (x : Fin m) => f h x.1) s = (List.range m).foldl f s := by
  have h : List.range m = (List.finRange m).map (fun x => x.1) := by
    apply List.ext_getElem
    · simp
    · intro i h1 h2; simp
  rw [h, List.foldl_map]
end Go.Proofs.Ytlekeiokdmnboaa.Dig
