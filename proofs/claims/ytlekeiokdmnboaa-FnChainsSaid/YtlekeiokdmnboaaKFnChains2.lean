/- The law FnChains of the given program: it answers true at every input that its statement speaks of. Part 3 of 7: words, walks of the functions (printed by programs of this session), the plain law, the row. -/
import Derived.Test.YtlekeiokdmnboaaProg
import Derived.Below
import Derived.Deep.Draws
import Derived.Deep.AppendLies
import Derived.Maps.AppendAt
import Derived.OwnWalk
import Derived.Laws.BytesArg
import Derived.Laws.MakeOwn
import Derived.Laws.OwnMore
import Derived.Deep.OwnRows
import Derived.Tactics
import Derived.Lib.ConvBytes
import Derived.Laws.Slices
import Derived.WalkKit
import Derived.KernelRfl
import Derived.RowKit3
import Derived.Deep.LoopGhost
import Derived.Deep.QuietTactic
import Derived.BigQuiet
import Derived.WideLaws
import Derived.Deep.DeepCutAuto
import Derived.Deep.CutBlock
import Derived.Deep.RegionHeld3
import Derived.Laws.Rows
import Derived.Lib.AppendStr
import Derived.ArgAppend
import Derived.Laws.IdiomCopy
import Derived.OrdersHeld
import Derived.Laws.BitsLemmas
import Derived.RowKit
import Derived.Test.YtlekeiokdmnboaaKFnChains0
import Derived.Test.YtlekeiokdmnboaaKFnChains1
import Derived.Lib.SliceRun
import Derived.StillTailTactics
import Derived.Lib.Hide
import Derived.Laws.Bits64
import Derived.RangeFuncFrom
import Derived.RangeFuncNested
import Derived.RangeFuncBound
import Derived.RangeFuncCalls
import Derived.RangeFuncLeaves
import Derived.Shelf.Abstract
import Derived.Shelf.RegionOpen
import Derived.OwnWalkIn
import Derived.TacticsInMore
import Derived.LoopNIn
import Derived.LoopIn
import Derived.Outline
import Derived.BigRegionIn
section
namespace Go.Proofs.Ytlekeiokdmnboaa.Pa
open Go.RowKit Go.Proofs.YtlekeiokdmnboaaW.PrintWords Go.Proofs.YtlekeiokdmnboaaW.PrintLast Go.Proofs.YtlekeiokdmnboaaW.PrintMore
attribute [local go_sem] max2_int min2_int max_two min_two max_three min_three max_four min_four   -- for this text's walks alone
set_option linter.unusedVariables false
set_option linter.unusedSimpArgs false



def errW : Option Int → Value
  | none => .nilIface
  | some c => .iface 0 (.int .i64 c)
theorem errW_none : errW none = .nilIface := rfl
theorem errW_some (c : Int) : errW (some c) = .iface 0 (.int .i64 c) := rfl

theorem info3 : (Try.prog.info? 3).map (fun i => (i.zero, i.size, i.bytes)) = some (some (.int .i64 0), 1, 8) := by kernel_rfl
theorem info5 : (Try.prog.info? 5).map (fun i => (i.zero, i.size, i.bytes)) = some (some (.int .u8 0), 1, 1) := by kernel_rfl
theorem info9 : (Try.prog.info? 9).map (fun i => (i.zero, i.size, i.bytes)) = some (some (.string ⟨#[]⟩), 1, 16) := by kernel_rfl
theorem info32 : (Try.prog.info? 32).map (fun i => (i.zero, i.size, i.bytes)) = some (some (.agg #[(.int .i64 0), (.string ⟨#[]⟩), (.string ⟨#[]⟩), (.slice none 0 0)]), 4, 64) := by kernel_rfl
-- the values' own types
/-! #### struct type 32 -/
structure S32 where
  f0 : Int
  f1 : ByteArray
  f2 : ByteArray
  f3 : (List ByteArray)
def z32 : S32 := ⟨(0 : Int), (⟨#[]⟩ : ByteArray), (⟨#[]⟩ : ByteArray), ([] : List ByteArray)⟩
def k32 : Kd S32 := Kd.iso (Kd.pair (Kd.int .i64) (Kd.pair Kd.string (Kd.pair Kd.string (Kd.slice 9 Kd.string)))) (fun x : S32 => (x.f0, x.f1, x.f2, x.f3))
theorem k32_open {w : World} {x : S32} {cs : List Value} (h : k32.K w x cs) : ∃ A3 c3, cs = [.int .i64 x.f0, .string x.f1, .string x.f2, .slice A3 x.f3.length c3] ∧ x.f3.length ≤ c3 ∧ Kd.string.C w A3 x.f3.length x.f3 := by
  obtain ⟨_, _, rfl, rfl, ⟨_, _, rfl, rfl, ⟨_, _, rfl, rfl, ⟨A3, c3, rfl, l3, g3⟩⟩⟩⟩ := h
  exact ⟨A3, c3, rfl, l3, g3⟩
theorem k32_openM {w : World} {base : Nat} {ok : Nat → Prop} {x : S32} {cs : List Value} (h : k32.M w base ok x cs) : ∃ v3, cs = [.int .i64 x.f0, .string x.f1, .string x.f2, v3] ∧ Kd.string.R 9 w base ok v3 x.f3 := by
  obtain ⟨_, _, rfl, rfl, ⟨_, _, rfl, rfl, ⟨_, _, rfl, rfl, ⟨v3, rfl, g3⟩⟩⟩⟩ := h
  exact ⟨v3, rfl, g3⟩
theorem k32_mkM (w : World) (base : Nat) (ok : Nat → Prop) (x : S32) {v3 : Value} (g3 : Kd.string.R 9 w base ok v3 x.f3) : k32.M w base ok x [.int .i64 x.f0, .string x.f1, .string x.f2, v3] := ⟨[.int .i64 x.f0], [.string x.f1, .string x.f2, v3], rfl, rfl, ⟨[.string x.f1], [.string x.f2, v3], rfl, rfl, ⟨[.string x.f2], [v3], rfl, rfl, ⟨v3, rfl, g3⟩⟩⟩⟩
def rd_T32 (xs : List S32) (i : Int) : S32 := xs.getD i.toNat z32
theorem at_T32 {w : World} {A : Option Addr} {n : Nat} {xs : List S32} (h : Kd.C k32 w A n xs) (i : Int) (h0 : 0 ≤ i) (h1 : i < n) : ∃ ad A3 c3, A = some ad ∧ w.cell? (ad.add (i.toNat * 4)) = some (.int .i64 (rd_T32 xs i).f0) ∧ w.cell? ⟨(ad.add (i.toNat * 4)).block, (ad.add (i.toNat * 4)).off + 1, none⟩ = some (.string (rd_T32 xs i).f1) ∧ w.cell? ⟨(ad.add (i.toNat * 4)).block, (ad.add (i.toNat * 4)).off + 2, none⟩ = some (.string (rd_T32 xs i).f2) ∧ w.cell? ⟨(ad.add (i.toNat * 4)).block, (ad.add (i.toNat * 4)).off + 3, none⟩ = some (.slice A3 (rd_T32 xs i).f3.length c3) ∧ (rd_T32 xs i).f3.length ≤ c3 ∧ Kd.string.C w A3 (rd_T32 xs i).f3.length (rd_T32 xs i).f3 := by
  obtain ⟨ad, c, e, _, hK, hc0⟩ := Kd.C_get h z32 i h0 h1
  have hc : ∀ j u, c[j]? = some u → w.cell? (ad.add (i.toNat * 4 + j)) = some u := hc0
  obtain ⟨A3, c3, rfl, l3, g3⟩ := k32_open hK
  exact ⟨ad, A3, c3, e, hc 0 _ rfl, by rw [← add_field _ _ 1 (by omega)]; exact hc 1 _ rfl, by rw [← add_field _ _ 2 (by omega)]; exact hc 2 _ rfl, by rw [← add_field _ _ 3 (by omega)]; exact hc 3 _ rfl, l3, g3⟩

/-! #### struct type 29 -/
structure S29 where
  f0 : Int
  f1 : ByteArray
  f2 : ByteArray
  f3 : (List ByteArray)
def z29 : S29 := ⟨(0 : Int), (⟨#[]⟩ : ByteArray), (⟨#[]⟩ : ByteArray), ([] : List ByteArray)⟩
def k29 : Kd S29 := Kd.iso (Kd.pair (Kd.int .i64) (Kd.pair Kd.string (Kd.pair Kd.string (Kd.slice 9 Kd.string)))) (fun x : S29 => (x.f0, x.f1, x.f2, x.f3))
theorem k29_open {w : World} {x : S29} {cs : List Value} (h : k29.K w x cs) : ∃ A3 c3, cs = [.int .i64 x.f0, .string x.f1, .string x.f2, .slice A3 x.f3.length c3] ∧ x.f3.length ≤ c3 ∧ Kd.string.C w A3 x.f3.length x.f3 := by
  obtain ⟨_, _, rfl, rfl, ⟨_, _, rfl, rfl, ⟨_, _, rfl, rfl, ⟨A3, c3, rfl, l3, g3⟩⟩⟩⟩ := h
  exact ⟨A3, c3, rfl, l3, g3⟩
def rd_T29 (xs : List S29) (i : Int) : S29 := xs.getD i.toNat z29
theorem at_T29 {w : World} {A : Option Addr} {n : Nat} {xs : List S29} (h : Kd.C k29 w A n xs) (i : Int) (h0 : 0 ≤ i) (h1 : i < n) : ∃ ad A3 c3, A = some ad ∧ w.cell? (ad.add (i.toNat * 4)) = some (.int .i64 (rd_T29 xs i).f0) ∧ w.cell? ⟨(ad.add (i.toNat * 4)).block, (ad.add (i.toNat * 4)).off + 1, none⟩ = some (.string (rd_T29 xs i).f1) ∧ w.cell? ⟨(ad.add (i.toNat * 4)).block, (ad.add (i.toNat * 4)).off + 2, none⟩ = some (.string (rd_T29 xs i).f2) ∧ w.cell? ⟨(ad.add (i.toNat * 4)).block, (ad.add (i.toNat * 4)).off + 3, none⟩ = some (.slice A3 (rd_T29 xs i).f3.length c3) ∧ (rd_T29 xs i).f3.length ≤ c3 ∧ Kd.string.C w A3 (rd_T29 xs i).f3.length (rd_T29 xs i).f3 := by
  obtain ⟨ad, c, e, _, hK, hc0⟩ := Kd.C_get h z29 i h0 h1
  have hc : ∀ j u, c[j]? = some u → w.cell? (ad.add (i.toNat * 4 + j)) = some u := hc0
  obtain ⟨A3, c3, rfl, l3, g3⟩ := k29_open hK
  exact ⟨ad, A3, c3, e, hc 0 _ rfl, by rw [← add_field _ _ 1 (by omega)]; exact hc 1 _ rfl, by rw [← add_field _ _ 2 (by omega)]; exact hc 2 _ rfl, by rw [← add_field _ _ 3 (by omega)]; exact hc 3 _ rfl, l3, g3⟩

/-! #### struct type 128 -/
/-! #### struct type 73 -/
/-! #### struct type 108 -/
/-! #### struct type 112 -/
/-! #### struct type 80 -/
/-! #### struct type 76 -/
end Go.Proofs.Ytlekeiokdmnboaa.Pa
end

section
namespace Go.Proofs.Ytlekeiokdmnboaa.Pa
open Go.RowKit Go.Proofs.YtlekeiokdmnboaaW.PrintWords Go.Proofs.YtlekeiokdmnboaaW.PrintLast Go.Proofs.YtlekeiokdmnboaaW.PrintMore Go.Proofs.Ytlekeiokdmnboaa.M
attribute [local go_sem] max2_int min2_int max_two min_two max_three min_three max_four min_four   -- for this text's walks alone
set_option linter.unusedVariables false
set_option maxHeartbeats 8000000
set_option maxRecDepth 100000
set_option linter.unusedSimpArgs false

/-! ### spec_Padded: function 59 -/
mutual
def spec_Padded.l0 : Nat → List Int → List Int → Option (List Int)
  | 0, _, _ => none
  | k + 1, x0, x3 => if ((x3.length : Int) % 64) = 56 then (spec_Padded.l1 k x3 (wrap64 ((x0.length : Int) * 8)) 56) else (if x3.length < 140737488355328 then (spec_Padded.l0 k x0 (x3 ++ [0])) else (none))
def spec_Padded.l1 : Nat → List Int → Int → Int → Option (List Int)
  | 0, _, _, _ => none
  | k + 1, x3, x4, x5 => if x5 ≥ 0 then (if 0 ≤ (IntKind.u64.wrap (x5)) then (if x3.length < 140737488355328 then (spec_Padded.l1 k (x3 ++ [(shr .i64 x4 (IntKind.u64.wrap (x5))) % 256]) x4 (wrap64 (x5 - 8))) else (none)) else (none)) else (some x3)
end
def spec_Padded.f (k : Nat) (l0 : List Int) : Option (List Int) := (some (([] : List Int) : List Int)).bind fun y102 => (if y102.length + l0.length < 140737488355328 then ((some (y102 ++ l0 : List Int)).bind fun y105 => (if y105.length < 140737488355328 then (spec_Padded.l0 k l0 (y105 ++ [128])) else (none))) else (none))
theorem spec_Padded.mono_l : ∀ k, (∀ y0 y1, LeO (spec_Padded.l0 k y0 y1) (spec_Padded.l0 (k + 1) y0 y1)) ∧ (∀ y0 y1 y2, LeO (spec_Padded.l1 k y0 y1 y2) (spec_Padded.l1 (k + 1) y0 y1 y2))
  | 0 => ⟨fun _ _ r h => by simp [spec_Padded.l0] at h, fun _ _ _ r h => by simp [spec_Padded.l1] at h⟩
  | k + 1 => by
    obtain ⟨ih0, ih1⟩ := spec_Padded.mono_l k
    refine ⟨?_, ?_⟩
    · intro y0 y1
      unfold spec_Padded.l0
      exact me
    · intro y0 y1 y2
      unfold spec_Padded.l1
      exact me
theorem spec_Padded.mono : ∀ a0 k, LeO (spec_Padded.f k a0) (spec_Padded.f (k + 1) a0) := by
  intro a0 k
  obtain ⟨ih0, ih1⟩ := spec_Padded.mono_l k
  unfold spec_Padded.f
  exact me
theorem spec_Padded.calls (k : Nat) (A0 : Option Addr) (c0 : Nat) (l0 : List Int) (r : List Int) (w : World) (hr0 : Kd.C (Kd.int .u8) w A0 l0.length l0) (hc0 : l0.length ≤ c0) (h : spec_Padded.f k l0 = some r) :
    Calls Try.prog 59 #[.slice A0 l0.length c0] w fun e w' => ∃ v0_ : Value, e = .returned (v0_) ∧ Kd.R (Kd.int .u8) 5 w' w.heap.size (fun _ => True) v0_ r ∧ Below w.heap.size w w' := by
 have HR0 := mk0 hr0
 have HC0 := mk0 hc0
 clear hr0 hc0
 have HB := mk0 (Below.refl w.heap.size w)
 have H : ((some (([] : List Int) : List Int)).bind fun y102 => (if y102.length + l0.length < 140737488355328 then ((some (y102 ++ l0 : List Int)).bind fun y105 => (if y105.length < 140737488355328 then (spec_Padded.l0 k l0 (y105 ++ [128])) else (none))) else (none))) = some r := h
 clear h
 replace H := bz H; obtain ⟨y102, Ny102, H⟩ := H
 replace H := gl H; obtain ⟨LMc2, H⟩ := H
 replace H := bz H; obtain ⟨y105, Ny105, H⟩ := H
 replace H := gl H; obtain ⟨LMc3, H⟩ := H
 obtain ⟨y108, Ny108⟩ := nm (y105 ++ [128])
 rw [← Ny108.out] at H
 have H' := mk0 H
 clear H
 go_enter Try.func59, Try.ntmps59
 go_wp2_with (first | ((with_reducible refine gD 6 rfl ?_); refine lt (Kd.int .u8) 5 6 ([] : List Int) [] ?_; intro v103 w4 ho5 hb hg_ hnew_; clear hg_ hnew_; (first | rw [← Ny102.out] at ho5 | (simp only [Int.reduceToNat] at ho5; rw [← Ny102.out] at ho5)); have HO104 := mk0 (Kd.R_lower ho5 bs); replace HB := mk0 (below_step bw hb); clear hb ho5) | ((with_reducible refine gate_builtin (b := .append) (xs := #[.tmp 6, .tmp 7]) rfl ?_); at_builtin; refine Kd.R_append_rows (Kd.int .u8) (w0 := w) w.heap.size rfl (.tmp 6) (.tmp 7) 36 5 (.int .u8 0) 1 rfl Try.underlying36 info5 rfl (by decide) (by omega) v103 y102 l0 _ _ _ (fun _ => True) (fun _ => False) rfl rfl ?aO ?aR (fun _ _ h => h) (fun _ h => h.elim) ?aF ?aB ?aS ?aL ?_; (case aR => repeat (first | exact (Kd.C_below HR0.out HB.out) | (with_reducible refine Kd.C_alloc ?_ _) | (with_reducible refine Kd.C_drewN ?_ _) | (with_reducible refine Kd.C_drew ?_))); (case aB => exact bw); (case aF => exact (fun _ _ => trivial)); (case aO => exact (rr HO104.out)); (case aS => exact bs); (case aL => have := LMc2.out; omega); intro v106 w6 ho hb hg hat; rw [← Ny105.out] at ho; replace HB := mk0 (hb); have HO107 := mk0 (ho); clear HO104; clear ho hb hg hat) | ((with_reducible refine gB' .append #[.tmp 8, .tmp 9] rfl ?_); at_builtin; refine ap (Kd.int .u8) (.tmp 8) (.tmp 9) 36 5 (.int .u8 0) 1 Try.underlying36 info5 v106 y105 128 [.int .u8 128] (rr HO107.out) bw (la LMc3) ?_; intro v109 w7 ho hb hg hat; rw [← Ny108.out] at ho; replace HB := mk0 (hb); have HO110 := mk0 (ho); clear HO107; clear ho hb hg hat))
 go_loopg [3] k (fun kq v3 w' => ∃ (x3_1 : List Int), Aside0 (spec_Padded.l0 kq l0 x3_1 = some r) ∧ Aside0 (kq ≤ k) ∧ Aside0 (Kd.R (Kd.int .u8) 5 w' w.heap.size (fun _ => True) v3 x3_1) ∧ Aside0 (Below w.heap.size w w'))
 case atStart => exact ⟨(y108), H', nl, ⟨rr HO110.out⟩, ⟨bw⟩⟩
 case round =>
  clear H'
  obtain ⟨x3_1, HA, HK1, HO_3, HB⟩ := hrel
  rcases gk with _ | k1
  · exact absurd HA.out (by simp [spec_Padded.l0])
  have H := HA.out
  clear HA
  simp only [spec_Padded.l0] at H
  replace H := iq H; rcases H with ⟨c8b0, c8b1, H⟩ | ⟨c8, c8b0, c8b1, H⟩
  · have H' := mk0 H
    clear H
    obtain ⟨Ao9, co9, eo9⟩ := Kd.R_slice HO_3.out
    subst eo9
    go_wp2
    go_loopg [3, 5] k1 (fun kq v3 v5 w' => ∃ (x3_2 : List Int) (x5_2 : Int), v5 = .int .i64 x5_2 ∧ Aside0 (spec_Padded.l1 kq x3_2 (wrap64 ((l0.length : Int) * 8)) x5_2 = some r) ∧ Aside0 (kq ≤ k1) ∧ Aside0 (Kd.R (Kd.int .u8) 5 w' w.heap.size (fun _ => True) v3 x3_2) ∧ Aside0 (Below w.heap.size w w'))
    case atStart => exact ⟨(x3_1), (56), sv, H', nl, ⟨rr HO_3.out⟩, ⟨bw⟩⟩
    case round =>
     clear H'
     (try clear c8); (try clear c8b0); (try clear c8b1)
     obtain ⟨x3_2, x5_2, rfl, HA, HK2, HO_3, HB⟩ := hrel
     rcases gk with _ | k2
     · exact absurd HA.out (by simp [spec_Padded.l1])
     have H := HA.out
     clear HA
     simp only [spec_Padded.l1] at H
     replace H := ip H; rcases H with ⟨c10, H⟩ | ⟨c10, H⟩
     · have c10b0 : decide (0 ≤ x5_2) = true := decide_eq_true c10
       clear c10
       obtain ⟨ji11, hji11⟩ : ∃ j_ : Int, (IntKind.u64.wrap (x5_2)) = j_ := ⟨_, rfl⟩
       replace H : (if 0 ≤ (ji11) then (if x3_2.length < 140737488355328 then (spec_Padded.l1 k2 (x3_2 ++ [(shr .i64 (wrap64 ((l0.length : Int) * 8)) (ji11)) % 256]) (wrap64 ((l0.length : Int) * 8)) (wrap64 (x5_2 - 8))) else (none)) else (none)) = some r := by first | (rw [hji11] at H; exact H) | (simp only [hji11] at H ⊢; exact H)
       replace H := ge H; obtain ⟨c12b0, c12b1, H⟩ := H
       obtain ⟨ji13, hji13⟩ : ∃ j_ : Int, (shr .i64 (wrap64 ((l0.length : Int) * 8)) (ji11)) = j_ := ⟨_, rfl⟩
       replace H : (if x3_2.length < 140737488355328 then (spec_Padded.l1 k2 (x3_2 ++ [(ji13) % 256]) (wrap64 ((l0.length : Int) * 8)) (wrap64 (x5_2 - 8))) else (none)) = some r := by first | (rw [hji13] at H; exact H) | (simp only [hji13] at H ⊢; exact H)
       have hji13_ : ((wrap64 ((l0.length : Int) * 8)) / 2 ^ min (ji11).toNat 64) = ji13 := hji13
       have hji13z : (ji11) ≤ 64 → ((wrap64 ((l0.length : Int) * 8)) / 2 ^ (ji11).toNat) = ji13 := shr_small hji13
       replace H := gl H; obtain ⟨LMc14, H⟩ := H
       obtain ⟨y114, Ny114⟩ := nm (x3_2 ++ [(ji13) % 256])
       rw [← Ny114.out] at H
       have H' := mk0 H
       clear H
       go_wp2_with (first | ((with_reducible refine gB' .append #[.tmp 25, .tmp 31] rfl ?_); at_builtin; refine ap (Kd.int .u8) (.tmp 25) (.tmp 31) 36 5 (.int .u8 0) 1 Try.underlying36 info5 u3 x3_2 ((ji13) % 256) [.int .u8 ((ji13) % 256)] (rr HO_3.out) bw (la LMc14) ?_; intro v115 w15 ho hb hg hat; rw [← Ny114.out] at ho; replace HB := mk0 (hb); have HO116 := mk0 (ho); clear HO_3; clear ho hb hg hat))
       go_roundg k2
       case measure => have := HK1.out; have := HK2.out; omega
       case rel => exact ⟨(y114), (wrap64 (x5_2 - 8)), sv, H', hk2, ⟨rr HO116.out⟩, ⟨bw⟩⟩
     · have c10b0 : decide (0 ≤ x5_2) = false := decide_eq_false c10
       clear c10
       obtain rfl := Option.some.inj H
       go_wp2
       go_ret
       exact ⟨_, sw, rr HO_3.out, bw⟩
  · replace H := gl H; obtain ⟨LMc16, H⟩ := H
    obtain ⟨y111, Ny111⟩ := nm (x3_1 ++ [0])
    rw [← Ny111.out] at H
    have H' := mk0 H
    clear H
    obtain ⟨Ao17, co17, eo17⟩ := Kd.R_slice HO_3.out
    subst eo17
    go_wp2_with (first | ((with_reducible refine gB' .append #[.tmp 15, .tmp 16] rfl ?_); at_builtin; refine ap (Kd.int .u8) (.tmp 15) (.tmp 16) 36 5 (.int .u8 0) 1 Try.underlying36 info5 (.slice Ao17 x3_1.length co17) x3_1 0 [.int .u8 0] (rr HO_3.out) bw (la LMc16) ?_; intro v112 w18 ho hb hg hat; rw [← Ny111.out] at ho; replace HB := mk0 (hb); have HO113 := mk0 (ho); clear HO_3; clear ho hb hg hat))
    go_roundg k1
    case measure => have := HK1.out; omega
    case rel => exact ⟨(y111), H', hk1, ⟨rr HO113.out⟩, ⟨bw⟩⟩
/-! ### spec_l2K: function 60 -/
def spec_l2K.f  : Option (List Int) := some (([1116352408, 1899447441, 3049323471, 3921009573, 961987163, 1508970993, 2453635748, 2870763221, 3624381080, 310598401, 607225278, 1426881987, 1925078388, 2162078206, 2614888103, 3248222580, 3835390401, 4022224774, 264347078, 604807628, 770255983, 1249150122, 1555081692, 1996064986, 2554220882, 2821834349, 2952996808, 3210313671, 3336571891, 3584528711, 113926993, 338241895, 666307205, 773529912, 1294757372, 1396182291, 1695183700, 1986661051, 2177026350, 2456956037, 2730485921, 2820302411, 3259730800, 3345764771, 3516065817, 3600352804, 4094571909, 275423344, 430227734, 506948616, 659060556, 883997877, 958139571, 1322822218, 1537002063, 1747873779, 1955562222, 2024104815, 2227730452, 2361852424, 2428436474, 2756734187, 3204031479, 3329325298] : List Int))
theorem spec_l2K.calls  (r : List Int) (w : World) (h : spec_l2K.f  = some r) :
    Calls Try.prog 60 #[] w fun e w' => ∃ v0_ : Value, e = .returned (v0_) ∧ Kd.R (Kd.int .i64) 3 w' w.heap.size (fun _ => True) v0_ r ∧ Below w.heap.size w w' := by
 have HB := mk0 (Below.refl w.heap.size w)
 have H : (some (([1116352408, 1899447441, 3049323471, 3921009573, 961987163, 1508970993, 2453635748, 2870763221, 3624381080, 310598401, 607225278, 1426881987, 1925078388, 2162078206, 2614888103, 3248222580, 3835390401, 4022224774, 264347078, 604807628, 770255983, 1249150122, 1555081692, 1996064986, 2554220882, 2821834349, 2952996808, 3210313671, 3336571891, 3584528711, 113926993, 338241895, 666307205, 773529912, 1294757372, 1396182291, 1695183700, 1986661051, 2177026350, 2456956037, 2730485921, 2820302411, 3259730800, 3345764771, 3516065817, 3600352804, 4094571909, 275423344, 430227734, 506948616, 659060556, 883997877, 958139571, 1322822218, 1537002063, 1747873779, 1955562222, 2024104815, 2227730452, 2361852424, 2428436474, 2756734187, 3204031479, 3329325298] : List Int))) = some r := h
 clear h
 obtain ⟨y117, hy117⟩ : ∃ y_ : List Int, y_ = (([1116352408, 1899447441, 3049323471, 3921009573, 961987163, 1508970993, 2453635748, 2870763221, 3624381080, 310598401, 607225278, 1426881987, 1925078388, 2162078206, 2614888103, 3248222580, 3835390401, 4022224774, 264347078, 604807628, 770255983, 1249150122, 1555081692, 1996064986, 2554220882, 2821834349, 2952996808, 3210313671, 3336571891, 3584528711, 113926993, 338241895, 666307205, 773529912, 1294757372, 1396182291, 1695183700, 1986661051, 2177026350, 2456956037, 2730485921, 2820302411, 3259730800, 3345764771, 3516065817, 3600352804, 4094571909, 275423344, 430227734, 506948616, 659060556, 883997877, 958139571, 1322822218, 1537002063, 1747873779, 1955562222, 2024104815, 2227730452, 2361852424, 2428436474, 2756734187, 3204031479, 3329325298] : List Int)) := ⟨_, rfl⟩
 replace H : (some y117) = some r := by first | (rw [hy117]; with_reducible exact H) | (have H2_ := (Option.bind_some _ _).symm.trans H; rw [hy117]; with_reducible exact H2_) | (have H2_ := (Option.bind_some _ _).symm.trans H; with_reducible exact H2_) | with_reducible exact H | (rw [hy117]; exact H) | exact H
 have Ny117 := mk0 hy117
 clear hy117
 obtain rfl := Option.some.inj H
 go_enter Try.func60, Try.ntmps60
 go_wp2_with (first | ((with_reducible refine gD 1 rfl ?_); refine lt (Kd.int .i64) 3 1 ([1116352408, 1899447441, 3049323471, 3921009573, 961987163, 1508970993, 2453635748, 2870763221, 3624381080, 310598401, 607225278, 1426881987, 1925078388, 2162078206, 2614888103, 3248222580, 3835390401, 4022224774, 264347078, 604807628, 770255983, 1249150122, 1555081692, 1996064986, 2554220882, 2821834349, 2952996808, 3210313671, 3336571891, 3584528711, 113926993, 338241895, 666307205, 773529912, 1294757372, 1396182291, 1695183700, 1986661051, 2177026350, 2456956037, 2730485921, 2820302411, 3259730800, 3345764771, 3516065817, 3600352804, 4094571909, 275423344, 430227734, 506948616, 659060556, 883997877, 958139571, 1322822218, 1537002063, 1747873779, 1955562222, 2024104815, 2227730452, 2361852424, 2428436474, 2756734187, 3204031479, 3329325298] : List Int) [.int .i64 1116352408, .int .i64 1899447441, .int .i64 3049323471, .int .i64 3921009573, .int .i64 961987163, .int .i64 1508970993, .int .i64 2453635748, .int .i64 2870763221, .int .i64 3624381080, .int .i64 310598401, .int .i64 607225278, .int .i64 1426881987, .int .i64 1925078388, .int .i64 2162078206, .int .i64 2614888103, .int .i64 3248222580, .int .i64 3835390401, .int .i64 4022224774, .int .i64 264347078, .int .i64 604807628, .int .i64 770255983, .int .i64 1249150122, .int .i64 1555081692, .int .i64 1996064986, .int .i64 2554220882, .int .i64 2821834349, .int .i64 2952996808, .int .i64 3210313671, .int .i64 3336571891, .int .i64 3584528711, .int .i64 113926993, .int .i64 338241895, .int .i64 666307205, .int .i64 773529912, .int .i64 1294757372, .int .i64 1396182291, .int .i64 1695183700, .int .i64 1986661051, .int .i64 2177026350, .int .i64 2456956037, .int .i64 2730485921, .int .i64 2820302411, .int .i64 3259730800, .int .i64 3345764771, .int .i64 3516065817, .int .i64 3600352804, .int .i64 4094571909, .int .i64 275423344, .int .i64 430227734, .int .i64 506948616, .int .i64 659060556, .int .i64 883997877, .int .i64 958139571, .int .i64 1322822218, .int .i64 1537002063, .int .i64 1747873779, .int .i64 1955562222, .int .i64 2024104815, .int .i64 2227730452, .int .i64 2361852424, .int .i64 2428436474, .int .i64 2756734187, .int .i64 3204031479, .int .i64 3329325298] ?_; intro v118 w1 ho2 hb hg_ hnew_; clear hg_ hnew_; (first | rw [← Ny117.out] at ho2 | (simp only [Int.reduceToNat] at ho2; rw [← Ny117.out] at ho2)); have HO119 := mk0 (Kd.R_lower ho2 bs); replace HB := mk0 (below_step bw hb); clear hb ho2))
 go_ret
 exact ⟨_, sw, rr HO119.out, bw⟩
/-! ### spec_l2Turn: function 87 -/
def spec_l2Turn.f (a0 : Int) (a1 : Int) : Option (Int) := if 0 ≤ (IntKind.u64.wrap (a1)) then (if 0 ≤ (IntKind.u64.wrap (wrap64 (32 - a1))) then (some (Go.bits .and .i64 (Go.bits .or .i64 (shr .i64 a0 (IntKind.u64.wrap (a1))) (shl .i64 a0 (IntKind.u64.wrap (wrap64 (32 - a1))))) 4294967295)) else (none)) else (none)
theorem spec_l2Turn.calls (a0 : Int) (a1 : Int) (r : Int) (w : World) (h : spec_l2Turn.f a0 a1 = some r) :
    Calls Try.prog 87 #[.int .i64 a0, .int .i64 a1] w fun e w' => e = .returned (.int .i64 r) ∧ Drawn0 w w' := by
 have H : (if 0 ≤ (IntKind.u64.wrap (a1)) then (if 0 ≤ (IntKind.u64.wrap (wrap64 (32 - a1))) then (some (Go.bits .and .i64 (Go.bits .or .i64 (shr .i64 a0 (IntKind.u64.wrap (a1))) (shl .i64 a0 (IntKind.u64.wrap (wrap64 (32 - a1))))) 4294967295)) else (none)) else (none)) = some r := h
 clear h
 obtain ⟨ji3, hji3⟩ : ∃ j_ : Int, (IntKind.u64.wrap (a1)) = j_ := ⟨_, rfl⟩
 replace H : (if 0 ≤ (ji3) then (if 0 ≤ (IntKind.u64.wrap (wrap64 (32 - a1))) then (some (Go.bits .and .i64 (Go.bits .or .i64 (shr .i64 a0 (ji3)) (shl .i64 a0 (IntKind.u64.wrap (wrap64 (32 - a1))))) 4294967295)) else (none)) else (none)) = some r := by first | (rw [hji3] at H; exact H) | (simp only [hji3] at H ⊢; exact H)
 replace H := ge H; obtain ⟨c4b0, c4b1, H⟩ := H
 obtain ⟨ji5, hji5⟩ : ∃ j_ : Int, (shr .i64 a0 (ji3)) = j_ := ⟨_, rfl⟩
 replace H : (if 0 ≤ (IntKind.u64.wrap (wrap64 (32 - a1))) then (some (Go.bits .and .i64 (Go.bits .or .i64 (ji5) (shl .i64 a0 (IntKind.u64.wrap (wrap64 (32 - a1))))) 4294967295)) else (none)) = some r := by first | (rw [hji5] at H; exact H) | (simp only [hji5] at H ⊢; exact H)
 have hji5_ : (a0 / 2 ^ min (ji3).toNat 64) = ji5 := hji5
 have hji5z : (ji3) ≤ 64 → (a0 / 2 ^ (ji3).toNat) = ji5 := shr_small hji5
 obtain ⟨ji6, hji6⟩ : ∃ j_ : Int, (IntKind.u64.wrap (wrap64 (32 - a1))) = j_ := ⟨_, rfl⟩
 replace H : (if 0 ≤ (ji6) then (some (Go.bits .and .i64 (Go.bits .or .i64 (ji5) (shl .i64 a0 (ji6))) 4294967295)) else (none)) = some r := by first | (rw [hji6] at H; exact H) | (simp only [hji6] at H ⊢; exact H)
 replace H := ge H; obtain ⟨c7b0, c7b1, H⟩ := H
 obtain ⟨ji8, hji8⟩ : ∃ j_ : Int, (shl .i64 a0 (ji6)) = j_ := ⟨_, rfl⟩
 replace H : (some (Go.bits .and .i64 (Go.bits .or .i64 (ji5) (ji8)) 4294967295)) = some r := by first | (rw [hji8] at H; exact H) | (simp only [hji8] at H ⊢; exact H)
 have hji8_ : (IntKind.i64.wrap (a0 * 2 ^ min (ji6).toNat 64)) = ji8 := hji8
 have hji8z : (ji6) ≤ 64 → (IntKind.i64.wrap (a0 * 2 ^ (ji6).toNat)) = ji8 := shl_small hji8
 have hji8y : (wrap64 (a0 * 2 ^ min (ji6).toNat 64)) = ji8 := (i64_w _).symm.trans hji8_
 have hji8x : (ji6) ≤ 64 → (wrap64 (a0 * 2 ^ (ji6).toNat)) = ji8 := fun h_ => (i64_w _).symm.trans (hji8z h_)
 obtain rfl := Option.some.inj H
 go_enter Try.func87, Try.ntmps87
 go_wp2
 go_ret
 exact ⟨by first | rfl | (simp; done) | (simp only [← hji3, ← hji5, ← hji6, ← hji8] <;> (first | rfl | simp)) | (simp [*]; done), by repeat (first | exact Drawn0.refl _ | apply Drawn0.step)⟩
end Go.Proofs.Ytlekeiokdmnboaa.Pa
end

section
namespace Go.Proofs.Ytlekeiokdmnboaa.Pa
open Go.RowKit Go.Proofs.YtlekeiokdmnboaaW.PrintWords Go.Proofs.YtlekeiokdmnboaaW.PrintLast Go.Proofs.YtlekeiokdmnboaaW.PrintMore Go.Proofs.Ytlekeiokdmnboaa.M
attribute [local go_sem] max2_int min2_int max_two min_two max_three min_three max_four min_four   -- for this text's walks alone
set_option linter.unusedVariables false
set_option maxHeartbeats 8000000
set_option maxRecDepth 100000
set_option linter.unusedSimpArgs false

/-! ### spec_l2Words: function 86 -/
mutual
def spec_l2Words.l0 : Nat → List Int → List Int → Int → Option (List Int)
  | 0, _, _, _ => none
  | k + 1, x0, x3, x4 => if x4 < 16 then (if 0 ≤ (wrap64 (4 * x4)) then (if (wrap64 (4 * x4)) < (x0.length : Int) then (if 0 ≤ (wrap64 ((wrap64 (4 * x4)) + 1)) then (if (wrap64 ((wrap64 (4 * x4)) + 1)) < (x0.length : Int) then (if 0 ≤ (wrap64 ((wrap64 (4 * x4)) + 2)) then (if (wrap64 ((wrap64 (4 * x4)) + 2)) < (x0.length : Int) then (if 0 ≤ (wrap64 ((wrap64 (4 * x4)) + 3)) then (if (wrap64 ((wrap64 (4 * x4)) + 3)) < (x0.length : Int) then (if x3.length < 17592186044416 then (spec_l2Words.l0 k x0 (x3 ++ [Go.bits .or .i64 (Go.bits .or .i64 (Go.bits .or .i64 (wrap64 ((wrap64 (rd x0 (wrap64 (4 * x4)))) * 16777216)) (wrap64 ((wrap64 (rd x0 (wrap64 ((wrap64 (4 * x4)) + 1)))) * 65536))) (wrap64 ((wrap64 (rd x0 (wrap64 ((wrap64 (4 * x4)) + 2)))) * 256))) (wrap64 (rd x0 (wrap64 ((wrap64 (4 * x4)) + 3))))]) (wrap64 (x4 + 1))) else (none)) else (none)) else (none)) else (none)) else (none)) else (none)) else (none)) else (none)) else (none)) else (spec_l2Words.l1 k x3 16)
def spec_l2Words.l1 : Nat → List Int → Int → Option (List Int)
  | 0, _, _ => none
  | k + 1, x3, x5 => if x5 < 64 then (if 0 ≤ (wrap64 (x5 - 15)) then (if (wrap64 (x5 - 15)) < (x3.length : Int) then (if 0 ≤ (wrap64 (x5 - 2)) then (if (wrap64 (x5 - 2)) < (x3.length : Int) then ((spec_l2Turn.f (rd x3 (wrap64 (x5 - 15))) 7).bind fun t132 => ((spec_l2Turn.f (rd x3 (wrap64 (x5 - 15))) 18).bind fun t133 => ((spec_l2Turn.f (rd x3 (wrap64 (x5 - 2))) 17).bind fun t134 => ((spec_l2Turn.f (rd x3 (wrap64 (x5 - 2))) 19).bind fun t135 => (if 0 ≤ (wrap64 (x5 - 16)) then (if (wrap64 (x5 - 16)) < (x3.length : Int) then (if 0 ≤ (wrap64 (x5 - 7)) then (if (wrap64 (x5 - 7)) < (x3.length : Int) then (if x3.length < 17592186044416 then (spec_l2Words.l1 k (x3 ++ [Go.bits .and .i64 (wrap64 ((wrap64 ((wrap64 ((rd x3 (wrap64 (x5 - 16))) + (Go.bits .xor .i64 (Go.bits .xor .i64 t132 t133) ((rd x3 (wrap64 (x5 - 15))) / 8)))) + (rd x3 (wrap64 (x5 - 7))))) + (Go.bits .xor .i64 (Go.bits .xor .i64 t134 t135) ((rd x3 (wrap64 (x5 - 2))) / 1024)))) 4294967295]) (wrap64 (x5 + 1))) else (none)) else (none)) else (none)) else (none)) else (none)))))) else (none)) else (none)) else (none)) else (none)) else (some x3)
end
def spec_l2Words.f (k : Nat) (l0 : List Int) : Option (List Int) := spec_l2Words.l0 k l0 (([] : List Int)) 0
theorem spec_l2Words.mono_l : ∀ k, (∀ y0 y1 y2, LeO (spec_l2Words.l0 k y0 y1 y2) (spec_l2Words.l0 (k + 1) y0 y1 y2)) ∧ (∀ y0 y1, LeO (spec_l2Words.l1 k y0 y1) (spec_l2Words.l1 (k + 1) y0 y1))
  | 0 => ⟨fun _ _ _ r h => by simp [spec_l2Words.l0] at h, fun _ _ r h => by simp [spec_l2Words.l1] at h⟩
  | k + 1 => by
    obtain ⟨ih0, ih1⟩ := spec_l2Words.mono_l k
    refine ⟨?_, ?_⟩
    · intro y0 y1 y2
      unfold spec_l2Words.l0
      exact me
    · intro y0 y1
      unfold spec_l2Words.l1
      exact me
theorem spec_l2Words.mono : ∀ a0 k, LeO (spec_l2Words.f k a0) (spec_l2Words.f (k + 1) a0) := by
  intro a0 k
  obtain ⟨ih0, ih1⟩ := spec_l2Words.mono_l k
  unfold spec_l2Words.f
  exact me
def spec_l2Words.T5 : Bool × List (List Nat × List Nat) := (true, [([], []), ([], []), ([], []), ([2], [2]), ([1, 3], [1, 3]), ([4], [4]), ([5], [5]), ([6], [6]), ([], []), ([], []), ([9], [9]), ([10], [10]), ([8, 11], [8, 11]), ([12], [12]), ([13], [13]), ([14], [14]), ([7, 15], [7, 15]), ([], []), ([], []), ([18], [18]), ([19], [19]), ([17, 20], [17, 20]), ([21], [21]), ([22], [22]), ([23], [23]), ([16, 24], [16, 24]), ([], []), ([], []), ([27], [27]), ([28], [28]), ([26, 29], [26, 29]), ([30], [30]), ([31], [31]), ([25, 32], [25, 32]), ([33], [33]), ([0, 34], [0, 34]), ([35, 35, 0, 1, 2, 3, 4, 5, 6, 7, 8, 9, 10, 11, 12, 13, 14, 15, 16, 17, 18, 19, 20, 21, 22, 23, 24, 25, 26, 27, 28, 29, 30, 31, 32, 33, 34, 35], [0, 35])])
def spec_l2Words.B5 : List Nat := [0, 0, 0, 4, 14, 30, 62, 126, 0, 0, 512, 1536, 3840, 7936, 16128, 32512, 65534, 0, 0, 262144, 786432, 1966080, 4063232, 8257536, 16646144, 33554430, 0, 0, 134217728, 402653184, 1006632960, 2080374784, 4227858432, 8589934590, 17179869182, 34359738367, 68719476735]
theorem spec_l2Words.tab5 : rtab .any (opsOf Try.f86 5) = spec_l2Words.T5 := by kernel_rfl
theorem spec_l2Words.bits5 : waitsOk spec_l2Words.T5.2 spec_l2Words.B5 = true := by kernel_rfl
def spec_l2Words.T13 : Bool × List (List Nat × List Nat) := (true, [([], []), ([], []), ([], []), ([2], [2]), ([1, 3], [1, 3]), ([4], [4]), ([], []), ([5, 6], [5, 6]), ([], []), ([], []), ([9], [9]), ([8, 10], [8, 10]), ([11], [11]), ([7, 12], [7, 12]), ([], []), ([13, 14], [13, 14]), ([15], [15]), ([16], [16]), ([0, 17], [0, 17]), ([18, 18, 0, 1, 2, 3, 4, 5, 6, 7, 8, 9, 10, 11, 12, 13, 14, 15, 16, 17, 18], [0, 1, 8, 18])])
def spec_l2Words.B13 : List Nat := [0, 0, 0, 4, 14, 30, 0, 126, 0, 0, 512, 1792, 3840, 8190, 0, 32766, 65534, 131070, 262143, 524287]
theorem spec_l2Words.tab13 : rtab .any (opsOf Try.f86 13) = spec_l2Words.T13 := by kernel_rfl
theorem spec_l2Words.bits13 : waitsOk spec_l2Words.T13.2 spec_l2Words.B13 = true := by kernel_rfl
theorem spec_l2Words.calls (k : Nat) (A0 : Option Addr) (c0 : Nat) (l0 : List Int) (r : List Int) (w : World) (hr0 : Kd.C (Kd.int .u8) w A0 l0.length l0) (hc0 : l0.length ≤ c0) (h : spec_l2Words.f k l0 = some r) :
    Calls Try.prog 86 #[.slice A0 l0.length c0] w fun e w' => ∃ v0_ : Value, e = .returned (v0_) ∧ Kd.R (Kd.int .i64) 3 w' w.heap.size (fun _ => True) v0_ r ∧ Below w.heap.size w w' := by
 have HR0 := mk0 hr0
 have HC0 := mk0 hc0
 clear hr0 hc0
 have HB := mk0 (Below.refl w.heap.size w)
 have H : (spec_l2Words.l0 k l0 (([] : List Int)) 0) = some r := h
 clear h
 obtain ⟨y120, hy120⟩ : ∃ y_ : List Int, y_ = (([] : List Int)) := ⟨_, rfl⟩
 replace H : (spec_l2Words.l0 k l0 y120 0) = some r := by first | (rw [hy120]; with_reducible exact H) | (have H2_ := (Option.bind_some _ _).symm.trans H; rw [hy120]; with_reducible exact H2_) | (have H2_ := (Option.bind_some _ _).symm.trans H; with_reducible exact H2_) | with_reducible exact H | (rw [hy120]; exact H) | exact H
 have Ny120 := mk0 hy120
 clear hy120
 have H' := mk0 H
 clear H
 go_enter Try.func86, Try.ntmps86
 go_wp2_with (first | ((with_reducible refine gD 10 rfl ?_); refine lt (Kd.int .i64) 3 10 ([] : List Int) [] ?_; intro v121 w2 ho3 hb hg_ hnew_; clear hg_ hnew_; (first | rw [← Ny120.out] at ho3 | (simp only [Int.reduceToNat] at ho3; rw [← Ny120.out] at ho3)); have HO122 := mk0 (Kd.R_lower ho3 bs); replace HB := mk0 (below_step bw hb); clear hb ho3))
 go_loopg [3, 4] k (fun kq v3 v4 w' => ∃ (x3_1 : List Int) (x4_1 : Int), v4 = .int .i64 x4_1 ∧ Aside0 (spec_l2Words.l0 kq l0 x3_1 x4_1 = some r) ∧ Aside0 (kq ≤ k) ∧ Aside0 (Kd.R (Kd.int .i64) 3 w' w.heap.size (fun _ => True) v3 x3_1) ∧ Aside0 (Below w.heap.size w w'))
 case atStart => exact ⟨(y120), (0), sv, H', nl, ⟨rr HO122.out⟩, ⟨bw⟩⟩
 case round =>
  clear H'
  obtain ⟨x3_1, x4_1, rfl, HA, HK1, HO_3, HB⟩ := hrel
  rcases gk with _ | k1
  · exact absurd HA.out (by simp [spec_l2Words.l0])
  have H := HA.out
  clear HA
  simp only [spec_l2Words.l0] at H
  replace H := idd H; rcases H with ⟨c4b0, H⟩ | ⟨c4b0, H⟩
  · obtain ⟨ji5, hji5⟩ : ∃ j_ : Int, (wrap64 (4 * x4_1)) = j_ := ⟨_, rfl⟩
    replace H : (if 0 ≤ (ji5) then (if (ji5) < (l0.length : Int) then (if 0 ≤ (wrap64 ((ji5) + 1)) then (if (wrap64 ((ji5) + 1)) < (l0.length : Int) then (if 0 ≤ (wrap64 ((ji5) + 2)) then (if (wrap64 ((ji5) + 2)) < (l0.length : Int) then (if 0 ≤ (wrap64 ((ji5) + 3)) then (if (wrap64 ((ji5) + 3)) < (l0.length : Int) then (if x3_1.length < 17592186044416 then (spec_l2Words.l0 k1 l0 (x3_1 ++ [Go.bits .or .i64 (Go.bits .or .i64 (Go.bits .or .i64 (wrap64 ((wrap64 (rd l0 (ji5))) * 16777216)) (wrap64 ((wrap64 (rd l0 (wrap64 ((ji5) + 1)))) * 65536))) (wrap64 ((wrap64 (rd l0 (wrap64 ((ji5) + 2)))) * 256))) (wrap64 (rd l0 (wrap64 ((ji5) + 3))))]) (wrap64 (x4_1 + 1))) else (none)) else (none)) else (none)) else (none)) else (none)) else (none)) else (none)) else (none)) else (none)) = some r := by first | (rw [hji5] at H; exact H) | (simp only [hji5] at H ⊢; exact H)
    have hji5w : (IntKind.i64.wrap (4 * x4_1)) = ji5 := (i64_w _).trans hji5
    replace H := gd H; obtain ⟨c6b0, H⟩ := H
    replace H := gd H; obtain ⟨c7b0, H⟩ := H
    obtain ⟨ji8, hji8⟩ : ∃ j_ : Int, (wrap64 ((ji5) + 1)) = j_ := ⟨_, rfl⟩
    replace H : (if 0 ≤ (ji8) then (if (ji8) < (l0.length : Int) then (if 0 ≤ (wrap64 ((ji5) + 2)) then (if (wrap64 ((ji5) + 2)) < (l0.length : Int) then (if 0 ≤ (wrap64 ((ji5) + 3)) then (if (wrap64 ((ji5) + 3)) < (l0.length : Int) then (if x3_1.length < 17592186044416 then (spec_l2Words.l0 k1 l0 (x3_1 ++ [Go.bits .or .i64 (Go.bits .or .i64 (Go.bits .or .i64 (wrap64 ((wrap64 (rd l0 (ji5))) * 16777216)) (wrap64 ((wrap64 (rd l0 (ji8))) * 65536))) (wrap64 ((wrap64 (rd l0 (wrap64 ((ji5) + 2)))) * 256))) (wrap64 (rd l0 (wrap64 ((ji5) + 3))))]) (wrap64 (x4_1 + 1))) else (none)) else (none)) else (none)) else (none)) else (none)) else (none)) else (none)) = some r := by first | (rw [hji8] at H; exact H) | (simp only [hji8] at H ⊢; exact H)
    have hji8w : (IntKind.i64.wrap ((ji5) + 1)) = ji8 := (i64_w _).trans hji8
    replace H := gd H; obtain ⟨c9b0, H⟩ := H
    replace H := gd H; obtain ⟨c10b0, H⟩ := H
    obtain ⟨ji11, hji11⟩ : ∃ j_ : Int, (wrap64 ((ji5) + 2)) = j_ := ⟨_, rfl⟩
    replace H : (if 0 ≤ (ji11) then (if (ji11) < (l0.length : Int) then (if 0 ≤ (wrap64 ((ji5) + 3)) then (if (wrap64 ((ji5) + 3)) < (l0.length : Int) then (if x3_1.length < 17592186044416 then (spec_l2Words.l0 k1 l0 (x3_1 ++ [Go.bits .or .i64 (Go.bits .or .i64 (Go.bits .or .i64 (wrap64 ((wrap64 (rd l0 (ji5))) * 16777216)) (wrap64 ((wrap64 (rd l0 (ji8))) * 65536))) (wrap64 ((wrap64 (rd l0 (ji11))) * 256))) (wrap64 (rd l0 (wrap64 ((ji5) + 3))))]) (wrap64 (x4_1 + 1))) else (none)) else (none)) else (none)) else (none)) else (none)) = some r := by first | (rw [hji11] at H; exact H) | (simp only [hji11] at H ⊢; exact H)
    have hji11w : (IntKind.i64.wrap ((ji5) + 2)) = ji11 := (i64_w _).trans hji11
    replace H := gd H; obtain ⟨c12b0, H⟩ := H
    replace H := gd H; obtain ⟨c13b0, H⟩ := H
    obtain ⟨ji14, hji14⟩ : ∃ j_ : Int, (wrap64 ((ji5) + 3)) = j_ := ⟨_, rfl⟩
    replace H : (if 0 ≤ (ji14) then (if (ji14) < (l0.length : Int) then (if x3_1.length < 17592186044416 then (spec_l2Words.l0 k1 l0 (x3_1 ++ [Go.bits .or .i64 (Go.bits .or .i64 (Go.bits .or .i64 (wrap64 ((wrap64 (rd l0 (ji5))) * 16777216)) (wrap64 ((wrap64 (rd l0 (ji8))) * 65536))) (wrap64 ((wrap64 (rd l0 (ji11))) * 256))) (wrap64 (rd l0 (ji14)))]) (wrap64 (x4_1 + 1))) else (none)) else (none)) else (none)) = some r := by first | (rw [hji14] at H; exact H) | (simp only [hji14] at H ⊢; exact H)
    have hji14w : (IntKind.i64.wrap ((ji5) + 3)) = ji14 := (i64_w _).trans hji14
    replace H := gd H; obtain ⟨c15b0, H⟩ := H
    replace H := gd H; obtain ⟨c16b0, H⟩ := H
    replace H := gl H; obtain ⟨LMc17, H⟩ := H
    obtain ⟨y127, Ny127⟩ := nm (x3_1 ++ [Go.bits .or .i64 (Go.bits .or .i64 (Go.bits .or .i64 (wrap64 ((wrap64 (rd l0 (ji5))) * 16777216)) (wrap64 ((wrap64 (rd l0 (ji8))) * 65536))) (wrap64 ((wrap64 (rd l0 (ji11))) * 256))) (wrap64 (rd l0 (ji14)))])
    rw [← Ny127.out] at H
    have H' := mk0 H
    clear H
    try go_wp2
    replace HO_3 := mk0 (Kd.R_drew HO_3.out)
    replace HB := mk0 (below_drew1 HB.out)
    have p123 : 0 ≤ ((ji5) : Int) := oa
    have q123 : (ji5) < (l0.length : Int) := oa
    obtain ⟨ad123, e123, hx123_0⟩ := Kd.at_int HR0.out (ji5) p123 q123
    have hw123_0 := hx123_0
    cases e123
    replace hx123_0 := hc HB hx123_0
    replace p123 := eq_true p123
    replace q123 := eq_true q123
    have p124 : 0 ≤ ((ji8) : Int) := oa
    have q124 : (ji8) < (l0.length : Int) := oa
    obtain ⟨ad124, e124, hx124_0⟩ := Kd.at_int HR0.out (ji8) p124 q124
    have hw124_0 := hx124_0
    obtain rfl : ad123 = ad124 := (by injection e124)
    replace hx124_0 := hc HB hx124_0
    replace p124 := eq_true p124
    replace q124 := eq_true q124
    have p125 : 0 ≤ ((ji11) : Int) := oa
    have q125 : (ji11) < (l0.length : Int) := oa
    obtain ⟨ad125, e125, hx125_0⟩ := Kd.at_int HR0.out (ji11) p125 q125
    have hw125_0 := hx125_0
    obtain rfl : ad123 = ad125 := (by injection e125)
    replace hx125_0 := hc HB hx125_0
    replace p125 := eq_true p125
    replace q125 := eq_true q125
    have p126 : 0 ≤ ((ji14) : Int) := oa
    have q126 : (ji14) < (l0.length : Int) := oa
    obtain ⟨ad126, e126, hx126_0⟩ := Kd.at_int HR0.out (ji14) p126 q126
    have hw126_0 := hx126_0
    obtain rfl : ad123 = ad126 := (by injection e126)
    replace hx126_0 := hc HB hx126_0
    replace p126 := eq_true p126
    replace q126 := eq_true q126
    refine st 37 spec_l2Words.tab5 spec_l2Words.bits5 (c_ (hc HB hw123_0) (c_ (hc HB hw124_0) (c_ (hc HB hw125_0) (c_ (hc HB hw126_0) n_)))) (fun hHeld HT_ HW_ => ?_)
    generalize wr.drew = w18 at HO_3 HB hx123_0 hx124_0 hx125_0 hx126_0 hHeld ⊢
    refine pu 0 (some 15) HT_ ?_
    refine pu 1 (some 16) HT_ ?_
    refine pu 2 (some 17) HT_ ?_
    refine pu 3 (some 18) HT_ ?_
    refine pu 4 (some 19) HT_ ?_
    refine pu 8 (some 23) HT_ ?_
    refine pu 9 (some 24) HT_ ?_
    refine pu 10 (some 25) HT_ ?_
    refine pu 11 (some 26) HT_ ?_
    refine pu 12 (some 27) HT_ ?_
    refine pu 17 (some 32) HT_ ?_
    refine pu 18 (some 33) HT_ ?_
    refine pu 19 (some 34) HT_ ?_
    refine pu 20 (some 35) HT_ ?_
    refine pu 21 (some 36) HT_ ?_
    refine pu 26 (some 41) HT_ ?_
    refine pu 27 (some 42) HT_ ?_
    refine pu 28 (some 43) HT_ ?_
    refine pu 29 (some 44) HT_ ?_
    refine pu 30 (some 45) HT_ ?_
    refine tk 5 (some 20) HT_ HW_ hHeld ?_
    refine pu 6 (some 21) HT_ ?_
    refine pu 7 (some 22) HT_ ?_
    refine tk 13 (some 28) HT_ HW_ hHeld ?_
    refine pu 14 (some 29) HT_ ?_
    refine pu 15 (some 30) HT_ ?_
    refine pu 16 (some 31) HT_ ?_
    refine tk 22 (some 37) HT_ HW_ hHeld ?_
    refine pu 23 (some 38) HT_ ?_
    refine pu 24 (some 39) HT_ ?_
    refine pu 25 (some 40) HT_ ?_
    refine tk 31 (some 46) HT_ HW_ hHeld ?_
    refine pu 32 (some 47) HT_ ?_
    refine pu 33 (some 48) HT_ ?_
    refine on 34 (some 49) HT_ (fun K hK => ?_)
    refine value_ (w1 := ?_) (v := ?_) (by rfl) rfl ?_ ?_
    rotate_left 2
    · go_simp
      constructor
      · rfl
      · rfl
    refine hK.out _ _ ⟨(World.cell?_alloc_lt _ _ _ (World.block_lt_of_cell? _ _ (((HB.out.cell (World.block_lt_of_cell? w _ hw123_0)).trans hw123_0)))).trans (((HB.out.cell (World.block_lt_of_cell? w _ hw123_0)).trans hw123_0)), (World.cell?_alloc_lt _ _ _ (World.block_lt_of_cell? _ _ (((HB.out.cell (World.block_lt_of_cell? w _ hw124_0)).trans hw124_0)))).trans (((HB.out.cell (World.block_lt_of_cell? w _ hw124_0)).trans hw124_0)), (World.cell?_alloc_lt _ _ _ (World.block_lt_of_cell? _ _ (((HB.out.cell (World.block_lt_of_cell? w _ hw125_0)).trans hw125_0)))).trans (((HB.out.cell (World.block_lt_of_cell? w _ hw125_0)).trans hw125_0)), (World.cell?_alloc_lt _ _ _ (World.block_lt_of_cell? _ _ (((HB.out.cell (World.block_lt_of_cell? w _ hw126_0)).trans hw126_0)))).trans (((HB.out.cell (World.block_lt_of_cell? w _ hw126_0)).trans hw126_0)), trivial⟩ (fun hHeld => ?_)
    clear hK K
    refine nr (some 49) ?_
    refine on 35 (some 50) HT_ (fun K hK => ?_)
    refine Kd.R_append_step (Kd.int .i64) (w0 := w) w.heap.size (by rfl) (.tmp 15) (.tmp 49) 87 3 (.int .i64 0) 8 rfl Try.underlying87 info3 rfl (by decide) (by omega) u3 x3_1 (Go.bits .or .i64 (Go.bits .or .i64 (Go.bits .or .i64 (wrap64 ((wrap64 (rd l0 (ji5))) * 16777216)) (wrap64 ((wrap64 (rd l0 (ji8))) * 65536))) (wrap64 ((wrap64 (rd l0 (ji11))) * 256))) (wrap64 (rd l0 (ji14)))) [.int .i64 (Go.bits .or .i64 (Go.bits .or .i64 (Go.bits .or .i64 (wrap64 ((wrap64 (rd l0 (ji5))) * 16777216)) (wrap64 ((wrap64 (rd l0 (ji8))) * 65536))) (wrap64 ((wrap64 (rd l0 (ji11))) * 256))) (wrap64 (rd l0 (ji14))))] (fun _ => True) (fun _ => False) rfl rfl ?aP (fun _ hk => hk.elim) ?aF ?aO ?aB ?aS ?aL ?_
    (case aP => exact rfl)
    (case aB => exact bw)
    (case aF => exact (fun _ _ => trivial))
    (case aO => exact (rr HO_3.out))
    (case aS => exact bs)
    (case aL => have := LMc17.out; omega)
    intro v128 w19 ho hb hg hat
    rw [← Ny127.out] at ho
    replace HB := mk0 (hb)
    have HO129 := mk0 (ho)
    clear HO_3
    clear ho hb hg hat
    refine hK.out _ _ ah (fun hHeld => ?_)
    clear hK K
    refine nr (some 50) ?_
    refine pu 36 (some 3) HT_ ?_
    refine dn HT_ ?_
    try go_wp2
    go_roundg k1
    case measure => have := HK1.out; omega
    case rel => exact ⟨(y127), (wrap64 (x4_1 + 1)), sv, H', hk1, ⟨rr HO129.out⟩, ⟨bw⟩⟩
  · have H' := mk0 H
    clear H
    go_wp2
    go_loopg [3, 5] k1 (fun kq v3 v5 w' => ∃ (x3_2 : List Int) (x5_2 : Int), v5 = .int .i64 x5_2 ∧ Aside0 (spec_l2Words.l1 kq x3_2 x5_2 = some r) ∧ Aside0 (kq ≤ k1) ∧ Aside0 (Kd.R (Kd.int .i64) 3 w' w.heap.size (fun _ => True) v3 x3_2) ∧ Aside0 (Below w.heap.size w w'))
    case atStart => exact ⟨(x3_1), (16), sv, H', nl, ⟨rr HO_3.out⟩, ⟨bw⟩⟩
    case round =>
     clear H'
     (try clear c4b0); (try clear c6b0); (try clear c7b0); (try clear c9b0); (try clear c10b0); (try clear c12b0); (try clear c13b0); (try clear c15b0); (try clear c16b0); (try clear hx123_0); (try clear hx124_0); (try clear hx125_0); (try clear hx126_0); (try clear p123); (try clear p124); (try clear p125); (try clear p126); (try clear q123); (try clear q124); (try clear q125); (try clear q126)
     obtain ⟨x3_2, x5_2, rfl, HA, HK2, HO_3, HB⟩ := hrel
     rcases gk with _ | k2
     · exact absurd HA.out (by simp [spec_l2Words.l1])
     have H := HA.out
     clear HA
     simp only [spec_l2Words.l1] at H
     replace H := idd H; rcases H with ⟨c20b0, H⟩ | ⟨c20b0, H⟩
     · obtain ⟨ji21, hji21⟩ : ∃ j_ : Int, (wrap64 (x5_2 - 15)) = j_ := ⟨_, rfl⟩
       replace H : (if 0 ≤ (ji21) then (if (ji21) < (x3_2.length : Int) then (if 0 ≤ (wrap64 (x5_2 - 2)) then (if (wrap64 (x5_2 - 2)) < (x3_2.length : Int) then ((spec_l2Turn.f (rd x3_2 (ji21)) 7).bind fun t132 => ((spec_l2Turn.f (rd x3_2 (ji21)) 18).bind fun t133 => ((spec_l2Turn.f (rd x3_2 (wrap64 (x5_2 - 2))) 17).bind fun t134 => ((spec_l2Turn.f (rd x3_2 (wrap64 (x5_2 - 2))) 19).bind fun t135 => (if 0 ≤ (wrap64 (x5_2 - 16)) then (if (wrap64 (x5_2 - 16)) < (x3_2.length : Int) then (if 0 ≤ (wrap64 (x5_2 - 7)) then (if (wrap64 (x5_2 - 7)) < (x3_2.length : Int) then (if x3_2.length < 17592186044416 then (spec_l2Words.l1 k2 (x3_2 ++ [Go.bits .and .i64 (wrap64 ((wrap64 ((wrap64 ((rd x3_2 (wrap64 (x5_2 - 16))) + (Go.bits .xor .i64 (Go.bits .xor .i64 t132 t133) ((rd x3_2 (ji21)) / 8)))) + (rd x3_2 (wrap64 (x5_2 - 7))))) + (Go.bits .xor .i64 (Go.bits .xor .i64 t134 t135) ((rd x3_2 (wrap64 (x5_2 - 2))) / 1024)))) 4294967295]) (wrap64 (x5_2 + 1))) else (none)) else (none)) else (none)) else (none)) else (none)))))) else (none)) else (none)) else (none)) else (none)) = some r := by first | (rw [hji21] at H; exact H) | (simp only [hji21] at H ⊢; exact H)
       have hji21w : (IntKind.i64.wrap (x5_2 - 15)) = ji21 := (i64_w _).trans hji21
       replace H := gd H; obtain ⟨c22b0, H⟩ := H
       replace H := gd H; obtain ⟨c23b0, H⟩ := H
       obtain ⟨ji24, hji24⟩ : ∃ j_ : Int, (wrap64 (x5_2 - 2)) = j_ := ⟨_, rfl⟩
       replace H : (if 0 ≤ (ji24) then (if (ji24) < (x3_2.length : Int) then ((spec_l2Turn.f (rd x3_2 (ji21)) 7).bind fun t132 => ((spec_l2Turn.f (rd x3_2 (ji21)) 18).bind fun t133 => ((spec_l2Turn.f (rd x3_2 (ji24)) 17).bind fun t134 => ((spec_l2Turn.f (rd x3_2 (ji24)) 19).bind fun t135 => (if 0 ≤ (wrap64 (x5_2 - 16)) then (if (wrap64 (x5_2 - 16)) < (x3_2.length : Int) then (if 0 ≤ (wrap64 (x5_2 - 7)) then (if (wrap64 (x5_2 - 7)) < (x3_2.length : Int) then (if x3_2.length < 17592186044416 then (spec_l2Words.l1 k2 (x3_2 ++ [Go.bits .and .i64 (wrap64 ((wrap64 ((wrap64 ((rd x3_2 (wrap64 (x5_2 - 16))) + (Go.bits .xor .i64 (Go.bits .xor .i64 t132 t133) ((rd x3_2 (ji21)) / 8)))) + (rd x3_2 (wrap64 (x5_2 - 7))))) + (Go.bits .xor .i64 (Go.bits .xor .i64 t134 t135) ((rd x3_2 (ji24)) / 1024)))) 4294967295]) (wrap64 (x5_2 + 1))) else (none)) else (none)) else (none)) else (none)) else (none)))))) else (none)) else (none)) = some r := by first | (rw [hji24] at H; exact H) | (simp only [hji24] at H ⊢; exact H)
       have hji24w : (IntKind.i64.wrap (x5_2 - 2)) = ji24 := (i64_w _).trans hji24
       replace H := gd H; obtain ⟨c25b0, H⟩ := H
       replace H := gd H; obtain ⟨c26b0, H⟩ := H
       replace H := bd H; obtain ⟨t132, A27, H⟩ := H
       replace H := bd H; obtain ⟨t133, A28, H⟩ := H
       replace H := bd H; obtain ⟨t134, A29, H⟩ := H
       replace H := bd H; obtain ⟨t135, A30, H⟩ := H
       obtain ⟨ji31, hji31⟩ : ∃ j_ : Int, (wrap64 (x5_2 - 16)) = j_ := ⟨_, rfl⟩
       replace H : (if 0 ≤ (ji31) then (if (ji31) < (x3_2.length : Int) then (if 0 ≤ (wrap64 (x5_2 - 7)) then (if (wrap64 (x5_2 - 7)) < (x3_2.length : Int) then (if x3_2.length < 17592186044416 then (spec_l2Words.l1 k2 (x3_2 ++ [Go.bits .and .i64 (wrap64 ((wrap64 ((wrap64 ((rd x3_2 (ji31)) + (Go.bits .xor .i64 (Go.bits .xor .i64 t132 t133) ((rd x3_2 (ji21)) / 8)))) + (rd x3_2 (wrap64 (x5_2 - 7))))) + (Go.bits .xor .i64 (Go.bits .xor .i64 t134 t135) ((rd x3_2 (ji24)) / 1024)))) 4294967295]) (wrap64 (x5_2 + 1))) else (none)) else (none)) else (none)) else (none)) else (none)) = some r := by first | (rw [hji31] at H; exact H) | (simp only [hji31] at H ⊢; exact H)
       (try rw [hji31] at A27)
       (try rw [hji31] at A28)
       (try rw [hji31] at A29)
       (try rw [hji31] at A30)
       have hji31w : (IntKind.i64.wrap (x5_2 - 16)) = ji31 := (i64_w _).trans hji31
       replace H := gd H; obtain ⟨c32b0, H⟩ := H
       replace H := gd H; obtain ⟨c33b0, H⟩ := H
       obtain ⟨ji34, hji34⟩ : ∃ j_ : Int, (wrap64 (x5_2 - 7)) = j_ := ⟨_, rfl⟩
       replace H : (if 0 ≤ (ji34) then (if (ji34) < (x3_2.length : Int) then (if x3_2.length < 17592186044416 then (spec_l2Words.l1 k2 (x3_2 ++ [Go.bits .and .i64 (wrap64 ((wrap64 ((wrap64 ((rd x3_2 (ji31)) + (Go.bits .xor .i64 (Go.bits .xor .i64 t132 t133) ((rd x3_2 (ji21)) / 8)))) + (rd x3_2 (ji34)))) + (Go.bits .xor .i64 (Go.bits .xor .i64 t134 t135) ((rd x3_2 (ji24)) / 1024)))) 4294967295]) (wrap64 (x5_2 + 1))) else (none)) else (none)) else (none)) = some r := by first | (rw [hji34] at H; exact H) | (simp only [hji34] at H ⊢; exact H)
       (try rw [hji34] at A27)
       (try rw [hji34] at A28)
       (try rw [hji34] at A29)
       (try rw [hji34] at A30)
       have hji34w : (IntKind.i64.wrap (x5_2 - 7)) = ji34 := (i64_w _).trans hji34
       replace H := gd H; obtain ⟨c35b0, H⟩ := H
       replace H := gd H; obtain ⟨c36b0, H⟩ := H
       replace H := gl H; obtain ⟨LMc37, H⟩ := H
       obtain ⟨y138, Ny138⟩ := nm (x3_2 ++ [Go.bits .and .i64 (wrap64 ((wrap64 ((wrap64 ((rd x3_2 (ji31)) + (Go.bits .xor .i64 (Go.bits .xor .i64 t132 t133) ((rd x3_2 (ji21)) / 8)))) + (rd x3_2 (ji34)))) + (Go.bits .xor .i64 (Go.bits .xor .i64 t134 t135) ((rd x3_2 (ji24)) / 1024)))) 4294967295])
       rw [← Ny138.out] at H
       have H' := mk0 H
       clear H
       obtain ⟨Ao38, co38, eo38⟩ := Kd.R_slice HO_3.out
       subst eo38
       have p130 : 0 ≤ ((ji21) : Int) := oa
       have q130 : (ji21) < (x3_2.length : Int) := oa
       obtain ⟨ad130, e130, hx130_0⟩ := Kd.at_int (Kd.R_reads' HO_3.out).2.2 (ji21) p130 q130
       cases e130
       replace p130 := eq_true p130
       replace q130 := eq_true q130
       have p131 : 0 ≤ ((ji24) : Int) := oa
       have q131 : (ji24) < (x3_2.length : Int) := oa
       obtain ⟨ad131, e131, hx131_0⟩ := Kd.at_int (Kd.R_reads' HO_3.out).2.2 (ji24) p131 q131
       obtain rfl : ad130 = ad131 := (by injection e131)
       replace p131 := eq_true p131
       replace q131 := eq_true q131
       try go_wp2_with (first | ((with_reducible refine gate_callee (f := 87) rfl ?_); refine goesL_ (some 66) rfl rfl Try.func87 (by kernel_rfl) rfl #[.int .i64 (rd x3_2 (ji21)), .int .i64 7] rfl (by (try simp only [List.map_toArray, List.map_cons, List.map_nil]); first | done | (simp only [hji21]; rfl) | rfl | (simp only [List.length_drop, List.length_take]; rfl)) ?_; (with_reducible refine (spec_l2Turn.calls (rd x3_2 (ji21)) 7 t132 _ A27.out).mono ?_); rintro e w' ⟨rfl, ⟨nd, rfl⟩⟩; refine ⟨_, rfl, ?_⟩) | ((with_reducible refine gate_callee (f := 87) rfl ?_); refine goesL_ (some 68) rfl rfl Try.func87 (by kernel_rfl) rfl #[.int .i64 (rd x3_2 (ji21)), .int .i64 18] rfl (by (try simp only [List.map_toArray, List.map_cons, List.map_nil]); first | done | (simp only [hji21]; rfl) | rfl | (simp only [List.length_drop, List.length_take]; rfl)) ?_; (with_reducible refine (spec_l2Turn.calls (rd x3_2 (ji21)) 18 t133 _ A28.out).mono ?_); rintro e w' ⟨rfl, ⟨nd, rfl⟩⟩; refine ⟨_, rfl, ?_⟩) | ((with_reducible refine gate_callee (f := 87) rfl ?_); refine goesL_ (some 74) rfl rfl Try.func87 (by kernel_rfl) rfl #[.int .i64 (rd x3_2 (ji24)), .int .i64 17] rfl (by (try simp only [List.map_toArray, List.map_cons, List.map_nil]); first | done | (simp only [hji24]; rfl) | rfl | (simp only [List.length_drop, List.length_take]; rfl)) ?_; (with_reducible refine (spec_l2Turn.calls (rd x3_2 (ji24)) 17 t134 _ A29.out).mono ?_); rintro e w' ⟨rfl, ⟨nd, rfl⟩⟩; refine ⟨_, rfl, ?_⟩) | ((with_reducible refine gate_callee (f := 87) rfl ?_); refine goesL_ (some 76) rfl rfl Try.func87 (by kernel_rfl) rfl #[.int .i64 (rd x3_2 (ji24)), .int .i64 19] rfl (by (try simp only [List.map_toArray, List.map_cons, List.map_nil]); first | done | (simp only [hji24]; rfl) | rfl | (simp only [List.length_drop, List.length_take]; rfl)) ?_; (with_reducible refine (spec_l2Turn.calls (rd x3_2 (ji24)) 19 t135 _ A30.out).mono ?_); rintro e w' ⟨rfl, ⟨nd, rfl⟩⟩; refine ⟨_, rfl, ?_⟩))
       (try (rw [drewN_self wr]; generalize hq_ : World.drewN wr _ = wr; have n0_ : Aside0 (Kd.R (Kd.int .i64) 3 wr w.heap.size (fun _ => True) (.slice (some ad130) x3_2.length co38) x3_2) := ⟨by rw [← hq_]; exact (rr HO_3.out)⟩; have n1_ : Aside0 (Below w.heap.size w wr) := ⟨by rw [← hq_]; exact bw⟩; clear HO_3 HB hq_; have HO_3 := n0_; have HB := n1_; clear n0_ n1_))
       replace HO_3 := mk0 (Kd.R_drew HO_3.out)
       replace HB := mk0 (below_drew1 HB.out)
       have p136 : 0 ≤ ((ji31) : Int) := oa
       have q136 : (ji31) < (x3_2.length : Int) := oa
       obtain ⟨ad136, e136, hx136_0⟩ := Kd.at_int (Kd.R_reads' HO_3.out).2.2 (ji31) p136 q136
       obtain rfl : ad130 = ad136 := (by injection e136)
       replace p136 := eq_true p136
       replace q136 := eq_true q136
       have p137 : 0 ≤ ((ji34) : Int) := oa
       have q137 : (ji34) < (x3_2.length : Int) := oa
       obtain ⟨ad137, e137, hx137_0⟩ := Kd.at_int (Kd.R_reads' HO_3.out).2.2 (ji34) p137 q137
       obtain rfl : ad130 = ad137 := (by injection e137)
       replace p137 := eq_true p137
       replace q137 := eq_true q137
       refine start_ (n := 20) (S := fun w' => w'.cell? (ad130.add ((ji31)).toNat) = some (.int .i64 (rd x3_2 (ji31))) ∧ w'.cell? (ad130.add ((ji34)).toNat) = some (.int .i64 (rd x3_2 (ji34)))) (ds := [17, 18]) #[false, false, false, false, false, false, false, false, false, false, false, false, false, false, false, false, false, false, false, false] (by kernel_rfl) rfl rfl ⟨hx136_0, hx137_0⟩ (fun hHeld => ?_); refine with_tabW spec_l2Words.tab13 spec_l2Words.bits13 (fun HT_ HW_ => ?_)
       generalize wr.drew = w39 at HO_3 HB hx136_0 hx137_0 hHeld ⊢
       refine pu 0 (some 81) HT_ ?_
       refine pu 1 (some 82) HT_ ?_
       refine pu 2 (some 83) HT_ ?_
       refine pu 3 (some 84) HT_ ?_
       refine pu 4 (some 85) HT_ ?_
       refine pu 6 (some 87) HT_ ?_
       refine pu 8 (some 89) HT_ ?_
       refine pu 9 (some 90) HT_ ?_
       refine pu 10 (some 91) HT_ ?_
       refine pu 11 (some 92) HT_ ?_
       refine pu 14 (some 95) HT_ ?_
       refine tk 5 (some 86) HT_ HW_ hHeld ?_
       refine pu 7 (some 88) HT_ ?_
       refine tk 12 (some 93) HT_ HW_ hHeld ?_
       refine pu 13 (some 94) HT_ ?_
       refine pu 15 (some 96) HT_ ?_
       refine pu 16 (some 97) HT_ ?_
       refine last_ (i := 17) (N := some 98) #[true, true, true, true, true, true, true, true, true, true, true, true, true, true, true, true, true, true, false, false] rfl rfl (one_of HT_.out (by kernel_rfl)) (by decide) (fun K hK => ?_)
       refine value_ (w1 := ?_) (v := ?_) (by rfl) rfl ?_ ?_
       rotate_left 2
       · go_simp
         constructor
         · rfl
         · rfl
       refine hK.out _ _ ?_
       clear hK K
       refine nr (some 98) ?_
       refine last_ (i := 18) (N := some 99) #[true, true, true, true, true, true, true, true, true, true, true, true, true, true, true, true, true, true, true, false] rfl rfl (one_of HT_.out (by kernel_rfl)) (by decide) (fun K hK => ?_)
       refine Kd.R_append_step (Kd.int .i64) (w0 := w) w.heap.size (by rfl) (.tmp 81) (.tmp 98) 87 3 (.int .i64 0) 8 rfl Try.underlying87 info3 rfl (by decide) (by omega) (.slice (some ad130) x3_2.length co38) x3_2 (Go.bits .and .i64 (wrap64 ((wrap64 ((wrap64 ((rd x3_2 (ji31)) + (Go.bits .xor .i64 (Go.bits .xor .i64 t132 t133) ((rd x3_2 (ji21)) / 8)))) + (rd x3_2 (ji34)))) + (Go.bits .xor .i64 (Go.bits .xor .i64 t134 t135) ((rd x3_2 (ji24)) / 1024)))) 4294967295) [.int .i64 (Go.bits .and .i64 (wrap64 ((wrap64 ((wrap64 ((rd x3_2 (ji31)) + (Go.bits .xor .i64 (Go.bits .xor .i64 t132 t133) ((rd x3_2 (ji21)) / 8)))) + (rd x3_2 (ji34)))) + (Go.bits .xor .i64 (Go.bits .xor .i64 t134 t135) ((rd x3_2 (ji24)) / 1024)))) 4294967295)] (fun _ => True) (fun _ => False) rfl rfl ?aP (fun _ hk => hk.elim) ?aF ?aO ?aB ?aS ?aL ?_
       (case aP => exact rfl)
       (case aB => exact bw)
       (case aF => exact (fun _ _ => trivial))
       (case aO => exact (rr HO_3.out))
       (case aS => exact bs)
       (case aL => have := LMc37.out; omega)
       intro v139 w40 ho hb hg hat
       rw [← Ny138.out] at ho
       replace HB := mk0 (hb)
       have HO140 := mk0 (ho)
       clear HO_3
       clear ho hb hg hat
       refine hK.out _ _ ?_
       clear hK K
       refine nr (some 99) ?_
       refine pu 19 (some 3) HT_ ?_
       refine dn HT_ ?_
       try go_wp2
       go_roundg k2
       case measure => have := HK1.out; have := HK2.out; omega
       case rel => exact ⟨(y138), (wrap64 (x5_2 + 1)), sv, H', hk2, ⟨rr HO140.out⟩, ⟨bw⟩⟩
     · obtain rfl := Option.some.inj H
       go_wp2
       go_ret
       exact ⟨_, sw, rr HO_3.out, bw⟩
end Go.Proofs.Ytlekeiokdmnboaa.Pa
end

section
namespace Go.Proofs.Ytlekeiokdmnboaa.Pa
open Go.RowKit Go.Proofs.YtlekeiokdmnboaaW.PrintWords Go.Proofs.YtlekeiokdmnboaaW.PrintLast Go.Proofs.YtlekeiokdmnboaaW.PrintMore Go.Proofs.Ytlekeiokdmnboaa.M
attribute [local go_sem] max2_int min2_int max_two min_two max_three min_three max_four min_four   -- for this text's walks alone
set_option linter.unusedVariables false
set_option maxHeartbeats 8000000
set_option maxRecDepth 100000
set_option linter.unusedSimpArgs false

/-! ### spec_l2Block: function 61 -/
mutual
def spec_l2Block.l0 : Nat → List Int → List Int → List Int → List Int → Int → Option (List Int)
  | 0, _, _, _, _, _ => none
  | k + 1, x0, x2, x7, x8, x9 => if x9 < 64 then (if 4 < (x8.length : Int) then ((spec_l2Turn.f (rd x8 4) 6).bind fun t151 => ((spec_l2Turn.f (rd x8 4) 11).bind fun t152 => ((spec_l2Turn.f (rd x8 4) 25).bind fun t153 => (if 5 < (x8.length : Int) then (if 6 < (x8.length : Int) then (if 7 < (x8.length : Int) then (if 0 ≤ x9 then (if x9 < (x2.length : Int) then (if x9 < (x7.length : Int) then (if 0 < (x8.length : Int) then ((spec_l2Turn.f (rd x8 0) 2).bind fun t160 => ((spec_l2Turn.f (rd x8 0) 13).bind fun t161 => ((spec_l2Turn.f (rd x8 0) 22).bind fun t162 => (if 1 < (x8.length : Int) then (if 2 < (x8.length : Int) then (if 3 < (x8.length : Int) then (spec_l2Block.l0 k x0 x2 x7 (([Go.bits .and .i64 (wrap64 ((wrap64 ((wrap64 ((wrap64 ((wrap64 ((rd x8 7) + (Go.bits .xor .i64 (Go.bits .xor .i64 t151 t152) t153))) + (Go.bits .xor .i64 (Go.bits .and .i64 (rd x8 4) (rd x8 5)) (Go.bits .and .i64 (Go.bits .xor .i64 4294967295 (rd x8 4)) (rd x8 6))))) + (rd x2 x9))) + (rd x7 x9))) + (wrap64 ((Go.bits .xor .i64 (Go.bits .xor .i64 t160 t161) t162) + (Go.bits .xor .i64 (Go.bits .xor .i64 (Go.bits .and .i64 (rd x8 0) (rd x8 1)) (Go.bits .and .i64 (rd x8 0) (rd x8 2))) (Go.bits .and .i64 (rd x8 1) (rd x8 2))))))) 4294967295, rd x8 0, rd x8 1, rd x8 2, Go.bits .and .i64 (wrap64 ((rd x8 3) + (wrap64 ((wrap64 ((wrap64 ((wrap64 ((rd x8 7) + (Go.bits .xor .i64 (Go.bits .xor .i64 t151 t152) t153))) + (Go.bits .xor .i64 (Go.bits .and .i64 (rd x8 4) (rd x8 5)) (Go.bits .and .i64 (Go.bits .xor .i64 4294967295 (rd x8 4)) (rd x8 6))))) + (rd x2 x9))) + (rd x7 x9))))) 4294967295, rd x8 4, rd x8 5, rd x8 6] : List Int)) (wrap64 (x9 + 1))) else (none)) else (none)) else (none))))) else (none)) else (none)) else (none)) else (none)) else (none)) else (none)) else (none))))) else (none)) else (spec_l2Block.l1 k x0 x8 0)
def spec_l2Block.l1 : Nat → List Int → List Int → Int → Option (List Int)
  | 0, _, _, _ => none
  | k + 1, x0, x8, x18 => if x18 < 8 then (if 0 ≤ x18 then (if x18 < (x8.length : Int) then (if x18 < (x0.length : Int) then (spec_l2Block.l1 k x0 (x8.set (x18 : Int).toNat (Go.bits .and .i64 (wrap64 ((rd x8 x18) + (rd x0 x18))) 4294967295)) (wrap64 (x18 + 1))) else (none)) else (none)) else (none)) else (some x8)
end
def spec_l2Block.f (k : Nat) (l0 : List Int) (l1 : List Int) (l2 : List Int) : Option (List Int) := (spec_l2Words.f k l1).bind fun t141 => ((some (([] : List Int) : List Int)).bind fun y144 => (if y144.length + l0.length < 17592186044416 then (spec_l2Block.l0 k l0 l2 t141 (y144 ++ l0) 0) else (none)))
theorem spec_l2Block.mono_l : ∀ k, (∀ y0 y1 y2 y3 y4, LeO (spec_l2Block.l0 k y0 y1 y2 y3 y4) (spec_l2Block.l0 (k + 1) y0 y1 y2 y3 y4)) ∧ (∀ y0 y1 y2, LeO (spec_l2Block.l1 k y0 y1 y2) (spec_l2Block.l1 (k + 1) y0 y1 y2))
  | 0 => ⟨fun _ _ _ _ _ r h => by simp [spec_l2Block.l0] at h, fun _ _ _ r h => by simp [spec_l2Block.l1] at h⟩
  | k + 1 => by
    obtain ⟨ih0, ih1⟩ := spec_l2Block.mono_l k
    refine ⟨?_, ?_⟩
    · intro y0 y1 y2 y3 y4
      unfold spec_l2Block.l0
      have m0 := @spec_l2Words.mono
      exact me
    · intro y0 y1 y2
      unfold spec_l2Block.l1
      have m0 := @spec_l2Words.mono
      exact me
theorem spec_l2Block.mono : ∀ a0 a1 a2 k, LeO (spec_l2Block.f k a0 a1 a2) (spec_l2Block.f (k + 1) a0 a1 a2) := by
  intro a0 a1 a2 k
  obtain ⟨ih0, ih1⟩ := spec_l2Block.mono_l k
  unfold spec_l2Block.f
  have m0 := @spec_l2Words.mono
  exact me
def spec_l2Block.T8 : Bool × List (List Nat × List Nat) := (true, [([], []), ([], []), ([1], [1]), ([2], [2]), ([0, 3], [0, 3]), ([], []), ([5], [5]), ([], []), ([7], [7]), ([8], [8]), ([6, 9], [6, 9]), ([4, 10], [4, 10]), ([11, 0, 1, 2, 3, 4, 5, 6, 7, 8, 9, 10, 11], [11])])
def spec_l2Block.B8 : List Nat := [0, 0, 2, 6, 15, 0, 32, 0, 128, 384, 992, 2047, 4095]
theorem spec_l2Block.tab8 : rtab .any (opsOf Try.f61 8) = spec_l2Block.T8 := by kernel_rfl
theorem spec_l2Block.bits8 : waitsOk spec_l2Block.T8.2 spec_l2Block.B8 = true := by kernel_rfl
def spec_l2Block.T9 : Bool × List (List Nat × List Nat) := (true, [([], []), ([0], [0]), ([1], [1]), ([], []), ([2, 3], [2, 3]), ([], []), ([4, 5], [4, 5]), ([], []), ([], []), ([7, 8], [7, 8]), ([9], [9]), ([6, 10], [6, 10]), ([], []), ([], []), ([12, 13], [12, 13]), ([14], [14]), ([11, 15], [11, 15]), ([16, 0, 1, 2, 3, 4, 5, 6, 7, 8, 9, 10, 11, 12, 13, 14, 15, 16], [16])])
def spec_l2Block.B9 : List Nat := [0, 1, 3, 0, 15, 0, 63, 0, 0, 384, 896, 2047, 0, 0, 12288, 28672, 65535, 131071]
theorem spec_l2Block.tab9 : rtab .any (opsOf Try.f61 9) = spec_l2Block.T9 := by kernel_rfl
theorem spec_l2Block.bits9 : waitsOk spec_l2Block.T9.2 spec_l2Block.B9 = true := by kernel_rfl
def spec_l2Block.T12 : Bool × List (List Nat × List Nat) := (true, [([], []), ([], []), ([1], [1]), ([2], [2]), ([0, 3], [0, 3]), ([], []), ([], []), ([6], [6]), ([7], [7]), ([5, 8], [5, 8]), ([4, 9], [4, 9]), ([], []), ([11], [11]), ([12], [12]), ([], []), ([14], [14]), ([15], [15]), ([13, 16], [13, 16]), ([10, 17], [10, 17]), ([18, 0, 1, 2, 3, 4, 5, 6, 7, 8, 9, 10, 11, 12, 13, 14, 15, 16, 17, 18], [18])])
def spec_l2Block.B12 : List Nat := [0, 0, 2, 6, 15, 0, 0, 64, 192, 480, 1023, 0, 2048, 6144, 0, 16384, 49152, 129024, 262143, 524287]
theorem spec_l2Block.tab12 : rtab .any (opsOf Try.f61 12) = spec_l2Block.T12 := by kernel_rfl
theorem spec_l2Block.bits12 : waitsOk spec_l2Block.T12.2 spec_l2Block.B12 = true := by kernel_rfl
def spec_l2Block.T14 : Bool × List (List Nat × List Nat) := (true, [([], []), ([], []), ([0, 1], [0, 1]), ([2], [2]), ([], []), ([], []), ([5], [5]), ([6], [6]), ([], []), ([8], [8]), ([9], [9]), ([], []), ([11], [11]), ([12], [12]), ([], []), ([13, 14], [13, 14]), ([15], [15]), ([], []), ([], []), ([18], [18]), ([19], [19]), ([], []), ([21], [21]), ([22], [22]), ([3, 4, 7, 10, 16, 17, 20, 23], [3, 4, 7, 10, 16, 17, 20, 23]), ([24, 0, 1, 2, 3, 4, 5, 6, 7, 8, 9, 10, 11, 12, 13, 14, 15, 16, 17, 18, 19, 20, 21, 22, 23, 24], [5, 8, 11, 18, 21, 24])])
def spec_l2Block.B14 : List Nat := [0, 0, 3, 7, 0, 0, 32, 96, 0, 256, 768, 0, 2048, 6144, 0, 30720, 63488, 0, 0, 262144, 786432, 0, 2097152, 6291456, 16777215, 33554431]
theorem spec_l2Block.tab14 : rtab .any (opsOf Try.f61 14) = spec_l2Block.T14 := by kernel_rfl
theorem spec_l2Block.bits14 : waitsOk spec_l2Block.T14.2 spec_l2Block.B14 = true := by kernel_rfl
def spec_l2Block.T18 : Bool × List (List Nat × List Nat) := (true, [([], []), ([], []), ([], []), ([], []), ([2, 3], [2, 3]), ([4], [4]), ([], []), ([], []), ([6, 7], [6, 7]), ([8], [8]), ([5, 9], [5, 9]), ([10], [10]), ([0, 1, 0, 1, 2, 3, 4, 5, 6, 7, 8, 9, 10, 11], [0, 1]), ([12, 11, 0, 1, 2, 3, 4, 5, 6, 7, 8, 9, 10, 11], [11, 12])])
def spec_l2Block.B18 : List Nat := [0, 0, 0, 0, 12, 28, 0, 0, 192, 448, 1020, 2044, 4095, 8191]
theorem spec_l2Block.tab18 : rtab .any (opsOf Try.f61 18) = spec_l2Block.T18 := by kernel_rfl
theorem spec_l2Block.bits18 : waitsOk spec_l2Block.T18.2 spec_l2Block.B18 = true := by kernel_rfl
theorem spec_l2Block.calls (k : Nat) (A0 : Option Addr) (c0 : Nat) (l0 : List Int) (A1 : Option Addr) (c1 : Nat) (l1 : List Int) (A2 : Option Addr) (c2 : Nat) (l2 : List Int) (r : List Int) (w : World) (hr0 : Kd.C (Kd.int .i64) w A0 l0.length l0) (hc0 : l0.length ≤ c0) (hr1 : Kd.C (Kd.int .u8) w A1 l1.length l1) (hc1 : l1.length ≤ c1) (hr2 : Kd.C (Kd.int .i64) w A2 l2.length l2) (hc2 : l2.length ≤ c2) (h : spec_l2Block.f k l0 l1 l2 = some r) :
    Calls Try.prog 61 #[.slice A0 l0.length c0, .slice A1 l1.length c1, .slice A2 l2.length c2] w fun e w' => ∃ v0_ : Value, e = .returned (v0_) ∧ Kd.R (Kd.int .i64) 3 w' w.heap.size (fun _ => True) v0_ r ∧ Below w.heap.size w w' := by
 have HR0 := mk0 hr0
 have HC0 := mk0 hc0
 clear hr0 hc0
 have HR1 := mk0 hr1
 have HC1 := mk0 hc1
 clear hr1 hc1
 have HR2 := mk0 hr2
 have HC2 := mk0 hc2
 clear hr2 hc2
 have HB := mk0 (Below.refl w.heap.size w)
 have H : ((spec_l2Words.f k l1).bind fun t141 => ((some (([] : List Int) : List Int)).bind fun y144 => (if y144.length + l0.length < 17592186044416 then (spec_l2Block.l0 k l0 l2 t141 (y144 ++ l0) 0) else (none)))) = some r := h
 clear h
 replace H := bd H; obtain ⟨t141, A4, H⟩ := H
 replace H := bz H; obtain ⟨y144, Ny144, H⟩ := H
 replace H := gl H; obtain ⟨LMc5, H⟩ := H
 obtain ⟨y147, Ny147⟩ := nm (y144 ++ l0)
 rw [← Ny147.out] at H
 have H' := mk0 H
 clear H
 go_enter Try.func61, Try.ntmps61
 go_wp2_with (first | ((with_reducible refine gC 86 (some 20) rfl rfl ?_); refine gR (some 20) Try.func86 #[.slice A1 l1.length c1] (spec_l2Words.calls k _ _ l1 t141 _ (cc HR1.out) HC1.out A4.out) ?_; intro v142 w6 ho0 hb; have HO143 := mk0 (Kd.R_lower ho0 bs); replace HB := mk0 (below_step bw hb); clear hb ho0) | ((with_reducible refine gD 21 rfl ?_); refine lt (Kd.int .i64) 3 21 ([] : List Int) [] ?_; intro v145 w7 ho8 hb hg_ hnew_; clear hg_ hnew_; (first | rw [← Ny144.out] at ho8 | (simp only [Int.reduceToNat] at ho8; rw [← Ny144.out] at ho8)); have HO146 := mk0 (Kd.R_lower (Kd.R_new' ho8 (Kd.R_lt (rr HO143.out))) bs); replace HO143 := mk0 (Kd.R_elder' (rr HO143.out) (Kd.R_base ho8) hb); replace HB := mk0 (below_step bw hb); clear hb ho8) | ((with_reducible refine gate_builtin (b := .append) (xs := #[.tmp 21, .tmp 22]) rfl ?_); at_builtin; refine Kd.R_append_rows (Kd.int .i64) (w0 := w) w.heap.size rfl (.tmp 21) (.tmp 22) 87 3 (.int .i64 0) 8 rfl Try.underlying87 info3 rfl (by decide) (by omega) v145 y144 l0 _ _ _ (fun k_ => some k_ ≠ (v142 : Value).ownBlock) (fun _ => False) rfl rfl ?aO ?aR (fun _ _ h => h) (fun _ h => h.elim) ?aF ?aB ?aS ?aL ?_; (case aR => repeat (first | exact (Kd.C_below HR0.out HB.out) | (with_reducible refine Kd.C_alloc ?_ _) | (with_reducible refine Kd.C_drewN ?_ _) | (with_reducible refine Kd.C_drew ?_))); (case aB => exact bw); (case aF => exact (fun k_ hk => Kd.fresh' (Kd.R_lt (rr HO143.out)) k_ hk)); (case aO => exact (by (with_reducible repeat (first | apply Kd.R_alloc | apply Kd.R_drewN | apply Kd.R_drew)); exact Kd.R_mono HO146.out (fun _ hk => hk.2))); (case aS => exact bs); (case aL => have := LMc5.out; omega); intro v148 w9 ho hb hg hat; rw [← Ny147.out] at ho; replace HO143 := mk0 (Kd.R_after (ok := (fun _ => True)) (rr HO143.out) hg hat); replace HB := mk0 (hb); have HO149 := mk0 (ho); clear HO146; clear ho hb hg hat))
 go_loopg [8, 9] k (fun kq v8 v9 w' => ∃ (x8_1 : List Int) (x9_1 : Int), v9 = .int .i64 x9_1 ∧ Aside0 (spec_l2Block.l0 kq l0 l2 t141 x8_1 x9_1 = some r) ∧ Aside0 (kq ≤ k) ∧ Aside0 (Kd.R (Kd.int .i64) 3 w' w.heap.size (fun k_ => some k_ ≠ (v8 : Value).ownBlock) v142 t141) ∧ Aside0 (Kd.R (Kd.int .i64) 3 w' w.heap.size (fun k_ => some k_ ≠ (v142 : Value).ownBlock) v8 x8_1) ∧ Aside0 (Below w.heap.size w w'))
 case atStart => exact ⟨(y147), (0), sv, H', nl, ⟨by (with_reducible repeat (first | apply Kd.R_alloc | apply Kd.R_drewN | apply Kd.R_drew)); exact Kd.R_mono HO143.out (fun _ hk => hk.2)⟩, ⟨rr HO149.out⟩, ⟨bw⟩⟩
 case round =>
  clear H'
  (try clear c1)
  obtain ⟨x8_1, x9_1, rfl, HA, HK1, HO_7, HO_8, HB⟩ := hrel
  rcases gk with _ | k1
  · exact absurd HA.out (by simp [spec_l2Block.l0])
  have H := HA.out
  clear HA
  simp only [spec_l2Block.l0] at H
  replace H := idd H; rcases H with ⟨c10b0, H⟩ | ⟨c10b0, H⟩
  · replace H := gp H; obtain ⟨c11, H⟩ := H
    have c11b0 : decide (4 < (x8_1.length : Int)) = true := decide_eq_true c11
    have c11b1 : decide (4 < x8_1.length) = true := decide_eq_true (by omega)
    clear c11
    replace H := bd H; obtain ⟨t151, A12, H⟩ := H
    replace H := bd H; obtain ⟨t152, A13, H⟩ := H
    replace H := bd H; obtain ⟨t153, A14, H⟩ := H
    replace H := gp H; obtain ⟨c15, H⟩ := H
    have c15b0 : decide (5 < (x8_1.length : Int)) = true := decide_eq_true c15
    have c15b1 : decide (5 < x8_1.length) = true := decide_eq_true (by omega)
    clear c15
    replace H := gp H; obtain ⟨c16, H⟩ := H
    have c16b0 : decide (6 < (x8_1.length : Int)) = true := decide_eq_true c16
    have c16b1 : decide (6 < x8_1.length) = true := decide_eq_true (by omega)
    clear c16
    replace H := gp H; obtain ⟨c17, H⟩ := H
    have c17b0 : decide (7 < (x8_1.length : Int)) = true := decide_eq_true c17
    have c17b1 : decide (7 < x8_1.length) = true := decide_eq_true (by omega)
    clear c17
    replace H := gd H; obtain ⟨c18b0, H⟩ := H
    replace H := gd H; obtain ⟨c19b0, H⟩ := H
    replace H := gd H; obtain ⟨c20b0, H⟩ := H
    replace H := gp H; obtain ⟨c21, H⟩ := H
    have c21b0 : decide (0 < (x8_1.length : Int)) = true := decide_eq_true c21
    have c21b1 : decide (0 < x8_1.length) = true := decide_eq_true (by omega)
    clear c21
    replace H := bd H; obtain ⟨t160, A22, H⟩ := H
    replace H := bd H; obtain ⟨t161, A23, H⟩ := H
    replace H := bd H; obtain ⟨t162, A24, H⟩ := H
    replace H := gp H; obtain ⟨c25, H⟩ := H
    have c25b0 : decide (1 < (x8_1.length : Int)) = true := decide_eq_true c25
    have c25b1 : decide (1 < x8_1.length) = true := decide_eq_true (by omega)
    clear c25
    replace H := gp H; obtain ⟨c26, H⟩ := H
    have c26b0 : decide (2 < (x8_1.length : Int)) = true := decide_eq_true c26
    have c26b1 : decide (2 < x8_1.length) = true := decide_eq_true (by omega)
    clear c26
    replace H := gp H; obtain ⟨c27, H⟩ := H
    have c27b0 : decide (3 < (x8_1.length : Int)) = true := decide_eq_true c27
    have c27b1 : decide (3 < x8_1.length) = true := decide_eq_true (by omega)
    clear c27
    obtain ⟨y172, hy172⟩ : ∃ y_ : List Int, y_ = (([Go.bits .and .i64 (wrap64 ((wrap64 ((wrap64 ((wrap64 ((wrap64 ((rd x8_1 7) + (Go.bits .xor .i64 (Go.bits .xor .i64 t151 t152) t153))) + (Go.bits .xor .i64 (Go.bits .and .i64 (rd x8_1 4) (rd x8_1 5)) (Go.bits .and .i64 (Go.bits .xor .i64 4294967295 (rd x8_1 4)) (rd x8_1 6))))) + (rd l2 x9_1))) + (rd t141 x9_1))) + (wrap64 ((Go.bits .xor .i64 (Go.bits .xor .i64 t160 t161) t162) + (Go.bits .xor .i64 (Go.bits .xor .i64 (Go.bits .and .i64 (rd x8_1 0) (rd x8_1 1)) (Go.bits .and .i64 (rd x8_1 0) (rd x8_1 2))) (Go.bits .and .i64 (rd x8_1 1) (rd x8_1 2))))))) 4294967295, rd x8_1 0, rd x8_1 1, rd x8_1 2, Go.bits .and .i64 (wrap64 ((rd x8_1 3) + (wrap64 ((wrap64 ((wrap64 ((wrap64 ((rd x8_1 7) + (Go.bits .xor .i64 (Go.bits .xor .i64 t151 t152) t153))) + (Go.bits .xor .i64 (Go.bits .and .i64 (rd x8_1 4) (rd x8_1 5)) (Go.bits .and .i64 (Go.bits .xor .i64 4294967295 (rd x8_1 4)) (rd x8_1 6))))) + (rd l2 x9_1))) + (rd t141 x9_1))))) 4294967295, rd x8_1 4, rd x8_1 5, rd x8_1 6] : List Int)) := ⟨_, rfl⟩
    replace H : (spec_l2Block.l0 k1 l0 l2 t141 y172 (wrap64 (x9_1 + 1))) = some r := by first | (rw [hy172]; with_reducible exact H) | (have H2_ := (Option.bind_some _ _).symm.trans H; rw [hy172]; with_reducible exact H2_) | (have H2_ := (Option.bind_some _ _).symm.trans H; with_reducible exact H2_) | with_reducible exact H | (rw [hy172]; exact H) | exact H
    have Ny172 := mk0 hy172
    clear hy172
    have H' := mk0 H
    clear H
    obtain ⟨Ao28, co28, eo28⟩ := Kd.R_slice HO_8.out
    subst eo28
    have p150 : 0 ≤ (4 : Int) := (by omega)
    have q150 : 4 < (x8_1.length : Int) := oa
    obtain ⟨ad150, e150, hx150_0⟩ := Kd.at_int (Kd.R_reads' HO_8.out).2.2 4 p150 q150
    cases e150
    (try simp only [show (4 : Int).toNat = 4 from rfl, Nat.reduceMul, Nat.reduceEqDiff, Go.Addr.add, ↓reduceIte] at hx150_0)
    have qi150 : (4 < x8_1.length) = True := eq_true (by omega)
    (try rw [show ((4 : Int)).toNat = 4 from rfl] at hx150_0)
    replace p150 := eq_true p150
    replace q150 := eq_true q150
    try go_wp2_with (first | ((with_reducible refine gC 87 (some 32) rfl rfl ?_); refine gQ (some 32) Try.func87 #[.int .i64 (rd x8_1 4), .int .i64 6] (spec_l2Turn.calls (rd x8_1 4) 6 t151 _ A12.out) ?_; intro nd) | ((with_reducible refine gC 87 (some 34) rfl rfl ?_); refine gQ (some 34) Try.func87 #[.int .i64 (rd x8_1 4), .int .i64 11] (spec_l2Turn.calls (rd x8_1 4) 11 t152 _ A13.out) ?_; intro nd) | ((with_reducible refine gC 87 (some 37) rfl rfl ?_); refine gQ (some 37) Try.func87 #[.int .i64 (rd x8_1 4), .int .i64 25] (spec_l2Turn.calls (rd x8_1 4) 25 t153 _ A14.out) ?_; intro nd))
    (try (rw [drewN_self wr]; generalize hq_ : World.drewN wr _ = wr; have n0_ : Aside0 (Kd.R (Kd.int .i64) 3 wr w.heap.size (fun k_ => some k_ ≠ (.slice (some ad150) x8_1.length co28 : Value).ownBlock) v142 t141) := ⟨by rw [← hq_]; exact (rr HO_7.out)⟩; have n1_ : Aside0 (Kd.R (Kd.int .i64) 3 wr w.heap.size (fun k_ => some k_ ≠ (v142 : Value).ownBlock) (.slice (some ad150) x8_1.length co28) x8_1) := ⟨by rw [← hq_]; exact (rr HO_8.out)⟩; have n2_ : Aside0 (Below w.heap.size w wr) := ⟨by rw [← hq_]; exact bw⟩; clear HO_7 HO_8 HB hq_; have HO_7 := n0_; have HO_8 := n1_; have HB := n2_; clear n0_ n1_ n2_))
    replace HO_7 := mk0 (Kd.R_drew HO_7.out)
    replace HO_8 := mk0 (Kd.R_drew HO_8.out)
    replace HB := mk0 (below_drew1 HB.out)
    have p154 : 0 ≤ (5 : Int) := (by omega)
    have q154 : 5 < (x8_1.length : Int) := oa
    obtain ⟨ad154, e154, hx154_0⟩ := Kd.at_int (Kd.R_reads' HO_8.out).2.2 5 p154 q154
    obtain rfl : ad150 = ad154 := (by injection e154)
    (try simp only [show (5 : Int).toNat = 5 from rfl, Nat.reduceMul, Nat.reduceEqDiff, Go.Addr.add, ↓reduceIte] at hx154_0)
    have qi154 : (5 < x8_1.length) = True := eq_true (by omega)
    (try rw [show ((5 : Int)).toNat = 5 from rfl] at hx154_0)
    replace p154 := eq_true p154
    replace q154 := eq_true q154
    have p155 : 0 ≤ (6 : Int) := (by omega)
    have q155 : 6 < (x8_1.length : Int) := oa
    obtain ⟨ad155, e155, hx155_0⟩ := Kd.at_int (Kd.R_reads' HO_8.out).2.2 6 p155 q155
    obtain rfl : ad150 = ad155 := (by injection e155)
    (try simp only [show (6 : Int).toNat = 6 from rfl, Nat.reduceMul, Nat.reduceEqDiff, Go.Addr.add, ↓reduceIte] at hx155_0)
    have qi155 : (6 < x8_1.length) = True := eq_true (by omega)
    (try rw [show ((6 : Int)).toNat = 6 from rfl] at hx155_0)
    replace p155 := eq_true p155
    replace q155 := eq_true q155
    refine st 13 spec_l2Block.tab8 spec_l2Block.bits8 (c_ hx154_0 (c_ hx155_0 n_)) (fun hHeld HT_ HW_ => ?_)
    generalize wr.drew = w29 at HO_7 HO_8 HB hx154_0 hx155_0 hHeld ⊢
    refine pu 0 (some 39) HT_ ?_
    refine pu 1 (some 40) HT_ ?_
    refine pu 2 (some 41) HT_ ?_
    refine pu 5 (some 44) HT_ ?_
    refine pu 6 (some 45) HT_ ?_
    refine pu 7 (some 46) HT_ ?_
    refine pu 8 (some 47) HT_ ?_
    refine tk 3 (some 42) HT_ HW_ hHeld ?_
    refine pu 4 (some 43) HT_ ?_
    refine tk 9 (some 48) HT_ HW_ hHeld ?_
    refine pu 10 (some 49) HT_ ?_
    refine pu 11 (some 50) HT_ ?_
    refine pu 12 (some 12) HT_ ?_
    refine dn HT_ ?_
    try go_wp2
    replace HO_7 := mk0 (Kd.R_drew HO_7.out)
    replace HO_8 := mk0 (Kd.R_drew HO_8.out)
    replace HB := mk0 (below_drew1 HB.out)
    have p156 : 0 ≤ (7 : Int) := (by omega)
    have q156 : 7 < (x8_1.length : Int) := oa
    obtain ⟨ad156, e156, hx156_0⟩ := Kd.at_int (Kd.R_reads' HO_8.out).2.2 7 p156 q156
    obtain rfl : ad150 = ad156 := (by injection e156)
    (try simp only [show (7 : Int).toNat = 7 from rfl, Nat.reduceMul, Nat.reduceEqDiff, Go.Addr.add, ↓reduceIte] at hx156_0)
    have qi156 : (7 < x8_1.length) = True := eq_true (by omega)
    (try rw [show ((7 : Int)).toNat = 7 from rfl] at hx156_0)
    replace p156 := eq_true p156
    replace q156 := eq_true q156
    have p157 : 0 ≤ (x9_1 : Int) := oa
    have q157 : x9_1 < (l2.length : Int) := oa
    obtain ⟨ad157, e157, hx157_0⟩ := Kd.at_int HR2.out x9_1 p157 q157
    have hw157_0 := hx157_0
    cases e157
    replace hx157_0 := hc HB hx157_0
    replace p157 := eq_true p157
    replace q157 := eq_true q157
    obtain ⟨Ao31, co31, eo31⟩ := Kd.R_slice HO_7.out
    (first | subst eo31 | (injection eo31 with f1_ f2_ f3_; have f4_ := f1_.symm; have f5_ := f3_.symm; clear f1_ f2_ f3_; subst f4_; subst f5_))
    have p158 : 0 ≤ (x9_1 : Int) := oa
    have q158 : x9_1 < (t141.length : Int) := oa
    obtain ⟨ad158, e158, hx158_0⟩ := Kd.at_int (Kd.R_reads' HO_7.out).2.2 x9_1 p158 q158
    cases e158
    replace p158 := eq_true p158
    replace q158 := eq_true q158
    refine st 18 spec_l2Block.tab9 spec_l2Block.bits9 (c_ hx156_0 (c_ (hc HB hw157_0) (c_ hx158_0 n_))) (fun hHeld HT_ HW_ => ?_)
    generalize w29.drew = w30 at HO_7 HO_8 HB hx156_0 hx157_0 hx158_0 hHeld ⊢
    refine pu 0 (some 51) HT_ ?_
    refine pu 1 (some 52) HT_ ?_
    refine pu 3 (some 54) HT_ ?_
    refine pu 5 (some 56) HT_ ?_
    refine pu 7 (some 58) HT_ ?_
    refine pu 8 (some 59) HT_ ?_
    refine pu 9 (some 60) HT_ ?_
    refine pu 12 (some 63) HT_ ?_
    refine pu 13 (some 64) HT_ ?_
    refine pu 14 (some 65) HT_ ?_
    refine tk 2 (some 53) HT_ HW_ hHeld ?_
    refine pu 4 (some 55) HT_ ?_
    refine pu 6 (some 57) HT_ ?_
    refine tk 10 (some 61) HT_ HW_ hHeld ?_
    refine pu 11 (some 62) HT_ ?_
    refine tk 15 (some 66) HT_ HW_ hHeld ?_
    refine pu 16 (some 67) HT_ ?_
    refine pu 17 (some 13) HT_ ?_
    refine dn HT_ ?_
    have p159 : 0 ≤ (0 : Int) := (by omega)
    have q159 : 0 < (x8_1.length : Int) := oa
    obtain ⟨ad159, e159, hx159_0⟩ := Kd.at_int (Kd.R_reads' HO_8.out).2.2 0 p159 q159
    obtain rfl : ad150 = ad159 := (by injection e159)
    have qi159 : (0 < x8_1.length) = True := eq_true (by omega)
    (try rw [show ((0 : Int)).toNat = 0 from rfl] at hx159_0)
    (try rw [Addr.add_zero'] at hx159_0)
    replace p159 := eq_true p159
    replace q159 := eq_true q159
    try go_wp2_with (first | ((with_reducible refine gC 87 (some 72) rfl rfl ?_); refine gQ (some 72) Try.func87 #[.int .i64 (rd x8_1 0), .int .i64 2] (spec_l2Turn.calls (rd x8_1 0) 2 t160 _ A22.out) ?_; intro nd) | ((with_reducible refine gC 87 (some 74) rfl rfl ?_); refine gQ (some 74) Try.func87 #[.int .i64 (rd x8_1 0), .int .i64 13] (spec_l2Turn.calls (rd x8_1 0) 13 t161 _ A23.out) ?_; intro nd) | ((with_reducible refine gC 87 (some 77) rfl rfl ?_); refine gQ (some 77) Try.func87 #[.int .i64 (rd x8_1 0), .int .i64 22] (spec_l2Turn.calls (rd x8_1 0) 22 t162 _ A24.out) ?_; intro nd))
    (try (rw [drewN_self w30]; generalize hq_ : World.drewN w30 _ = w30; have n0_ : Aside0 (Kd.R (Kd.int .i64) 3 w30 w.heap.size (fun k_ => some k_ ≠ (.slice (some ad150) x8_1.length co28 : Value).ownBlock) (.slice (some ad158) t141.length co31) t141) := ⟨by rw [← hq_]; exact (rr HO_7.out)⟩; have n1_ : Aside0 (Kd.R (Kd.int .i64) 3 w30 w.heap.size (fun k_ => some k_ ≠ (.slice (some ad158) t141.length co31 : Value).ownBlock) (.slice (some ad150) x8_1.length co28) x8_1) := ⟨by rw [← hq_]; exact (rr HO_8.out)⟩; have n2_ : Aside0 (Below w.heap.size w w30) := ⟨by rw [← hq_]; exact bw⟩; clear HO_7 HO_8 HB hq_; have HO_7 := n0_; have HO_8 := n1_; have HB := n2_; clear n0_ n1_ n2_))
    replace HO_7 := mk0 (Kd.R_drew HO_7.out)
    replace HO_8 := mk0 (Kd.R_drew HO_8.out)
    replace HB := mk0 (below_drew1 HB.out)
    have p163 : 0 ≤ (1 : Int) := (by omega)
    have q163 : 1 < (x8_1.length : Int) := oa
    obtain ⟨ad163, e163, hx163_0⟩ := Kd.at_int (Kd.R_reads' HO_8.out).2.2 1 p163 q163
    obtain rfl : ad150 = ad163 := (by injection e163)
    (try simp only [show (1 : Int).toNat = 1 from rfl, Nat.reduceMul, Nat.reduceEqDiff, Go.Addr.add, ↓reduceIte] at hx163_0)
    have qi163 : (1 < x8_1.length) = True := eq_true (by omega)
    (try rw [show ((1 : Int)).toNat = 1 from rfl] at hx163_0)
    replace p163 := eq_true p163
    replace q163 := eq_true q163
    have p164 : 0 ≤ (2 : Int) := (by omega)
    have q164 : 2 < (x8_1.length : Int) := oa
    obtain ⟨ad164, e164, hx164_0⟩ := Kd.at_int (Kd.R_reads' HO_8.out).2.2 2 p164 q164
    obtain rfl : ad150 = ad164 := (by injection e164)
    (try simp only [show (2 : Int).toNat = 2 from rfl, Nat.reduceMul, Nat.reduceEqDiff, Go.Addr.add, ↓reduceIte] at hx164_0)
    have qi164 : (2 < x8_1.length) = True := eq_true (by omega)
    (try rw [show ((2 : Int)).toNat = 2 from rfl] at hx164_0)
    replace p164 := eq_true p164
    replace q164 := eq_true q164
    have p165 : 0 ≤ (1 : Int) := (by omega)
    have q165 : 1 < (x8_1.length : Int) := oa
    obtain ⟨ad165, e165, hx165_0⟩ := Kd.at_int (Kd.R_reads' HO_8.out).2.2 1 p165 q165
    obtain rfl : ad150 = ad165 := (by injection e165)
    (try simp only [show (1 : Int).toNat = 1 from rfl, Nat.reduceMul, Nat.reduceEqDiff, Go.Addr.add, ↓reduceIte] at hx165_0)
    have qi165 : (1 < x8_1.length) = True := eq_true (by omega)
    (try rw [show ((1 : Int)).toNat = 1 from rfl] at hx165_0)
    replace p165 := eq_true p165
    replace q165 := eq_true q165
    have p166 : 0 ≤ (2 : Int) := (by omega)
    have q166 : 2 < (x8_1.length : Int) := oa
    obtain ⟨ad166, e166, hx166_0⟩ := Kd.at_int (Kd.R_reads' HO_8.out).2.2 2 p166 q166
    obtain rfl : ad150 = ad166 := (by injection e166)
    (try simp only [show (2 : Int).toNat = 2 from rfl, Nat.reduceMul, Nat.reduceEqDiff, Go.Addr.add, ↓reduceIte] at hx166_0)
    have qi166 : (2 < x8_1.length) = True := eq_true (by omega)
    (try rw [show ((2 : Int)).toNat = 2 from rfl] at hx166_0)
    replace p166 := eq_true p166
    replace q166 := eq_true q166
    refine st 20 spec_l2Block.tab12 spec_l2Block.bits12 (c_ hx163_0 (c_ hx164_0 (c_ hx165_0 (c_ hx166_0 n_)))) (fun hHeld HT_ HW_ => ?_)
    generalize w30.drew = w32 at HO_7 HO_8 HB hx163_0 hx164_0 hx165_0 hx166_0 hHeld ⊢
    refine pu 0 (some 79) HT_ ?_
    refine pu 1 (some 80) HT_ ?_
    refine pu 2 (some 81) HT_ ?_
    refine pu 5 (some 84) HT_ ?_
    refine pu 6 (some 85) HT_ ?_
    refine pu 7 (some 86) HT_ ?_
    refine pu 11 (some 90) HT_ ?_
    refine pu 12 (some 91) HT_ ?_
    refine pu 14 (some 93) HT_ ?_
    refine pu 15 (some 94) HT_ ?_
    refine tk 3 (some 82) HT_ HW_ hHeld ?_
    refine pu 4 (some 83) HT_ ?_
    refine tk 8 (some 87) HT_ HW_ hHeld ?_
    refine pu 9 (some 88) HT_ ?_
    refine pu 10 (some 89) HT_ ?_
    refine tk 13 (some 92) HT_ HW_ hHeld ?_
    refine tk 16 (some 95) HT_ HW_ hHeld ?_
    refine pu 17 (some 96) HT_ ?_
    refine pu 18 (some 97) HT_ ?_
    refine pu 19 (some 16) HT_ ?_
    refine dn HT_ ?_
    try go_wp2
    replace HO_7 := mk0 (Kd.R_drew HO_7.out)
    replace HO_8 := mk0 (Kd.R_drew HO_8.out)
    replace HB := mk0 (below_drew1 HB.out)
    have p167 : 0 ≤ (1 : Int) := (by omega)
    have q167 : 1 < (x8_1.length : Int) := oa
    obtain ⟨ad167, e167, hx167_0⟩ := Kd.at_int (Kd.R_reads' HO_8.out).2.2 1 p167 q167
    obtain rfl : ad150 = ad167 := (by injection e167)
    (try simp only [show (1 : Int).toNat = 1 from rfl, Nat.reduceMul, Nat.reduceEqDiff, Go.Addr.add, ↓reduceIte] at hx167_0)
    have qi167 : (1 < x8_1.length) = True := eq_true (by omega)
    (try rw [show ((1 : Int)).toNat = 1 from rfl] at hx167_0)
    replace p167 := eq_true p167
    replace q167 := eq_true q167
    have p168 : 0 ≤ (2 : Int) := (by omega)
    have q168 : 2 < (x8_1.length : Int) := oa
    obtain ⟨ad168, e168, hx168_0⟩ := Kd.at_int (Kd.R_reads' HO_8.out).2.2 2 p168 q168
    obtain rfl : ad150 = ad168 := (by injection e168)
    (try simp only [show (2 : Int).toNat = 2 from rfl, Nat.reduceMul, Nat.reduceEqDiff, Go.Addr.add, ↓reduceIte] at hx168_0)
    have qi168 : (2 < x8_1.length) = True := eq_true (by omega)
    (try rw [show ((2 : Int)).toNat = 2 from rfl] at hx168_0)
    replace p168 := eq_true p168
    replace q168 := eq_true q168
    have p169 : 0 ≤ (3 : Int) := (by omega)
    have q169 : 3 < (x8_1.length : Int) := oa
    obtain ⟨ad169, e169, hx169_0⟩ := Kd.at_int (Kd.R_reads' HO_8.out).2.2 3 p169 q169
    obtain rfl : ad150 = ad169 := (by injection e169)
    (try simp only [show (3 : Int).toNat = 3 from rfl, Nat.reduceMul, Nat.reduceEqDiff, Go.Addr.add, ↓reduceIte] at hx169_0)
    have qi169 : (3 < x8_1.length) = True := eq_true (by omega)
    (try rw [show ((3 : Int)).toNat = 3 from rfl] at hx169_0)
    replace p169 := eq_true p169
    replace q169 := eq_true q169
    have p170 : 0 ≤ (5 : Int) := (by omega)
    have q170 : 5 < (x8_1.length : Int) := oa
    obtain ⟨ad170, e170, hx170_0⟩ := Kd.at_int (Kd.R_reads' HO_8.out).2.2 5 p170 q170
    obtain rfl : ad150 = ad170 := (by injection e170)
    (try simp only [show (5 : Int).toNat = 5 from rfl, Nat.reduceMul, Nat.reduceEqDiff, Go.Addr.add, ↓reduceIte] at hx170_0)
    have qi170 : (5 < x8_1.length) = True := eq_true (by omega)
    (try rw [show ((5 : Int)).toNat = 5 from rfl] at hx170_0)
    replace p170 := eq_true p170
    replace q170 := eq_true q170
    have p171 : 0 ≤ (6 : Int) := (by omega)
    have q171 : 6 < (x8_1.length : Int) := oa
    obtain ⟨ad171, e171, hx171_0⟩ := Kd.at_int (Kd.R_reads' HO_8.out).2.2 6 p171 q171
    obtain rfl : ad150 = ad171 := (by injection e171)
    (try simp only [show (6 : Int).toNat = 6 from rfl, Nat.reduceMul, Nat.reduceEqDiff, Go.Addr.add, ↓reduceIte] at hx171_0)
    have qi171 : (6 < x8_1.length) = True := eq_true (by omega)
    (try rw [show ((6 : Int)).toNat = 6 from rfl] at hx171_0)
    replace p171 := eq_true p171
    replace q171 := eq_true q171
    refine st 26 spec_l2Block.tab14 spec_l2Block.bits14 (c_ hx167_0 (c_ hx168_0 (c_ hx169_0 (c_ hx170_0 (c_ hx171_0 n_))))) (fun hHeld HT_ HW_ => ?_)
    generalize w32.drew = w33 at HO_7 HO_8 HB hx167_0 hx168_0 hx169_0 hx170_0 hx171_0 hHeld ⊢
    refine pu 0 (some 101) HT_ ?_
    refine pu 1 (some 102) HT_ ?_
    refine pu 2 (some 103) HT_ ?_
    refine pu 3 (some 104) HT_ ?_
    refine pu 4 (some 105) HT_ ?_
    refine pu 5 (some 106) HT_ ?_
    refine pu 6 (some 107) HT_ ?_
    refine pu 8 (some 109) HT_ ?_
    refine pu 9 (some 110) HT_ ?_
    refine pu 11 (some 112) HT_ ?_
    refine pu 12 (some 113) HT_ ?_
    refine pu 14 (some 115) HT_ ?_
    refine pu 17 (some 118) HT_ ?_
    refine pu 18 (some 119) HT_ ?_
    refine pu 19 (some 120) HT_ ?_
    refine pu 21 (some 122) HT_ ?_
    refine pu 22 (some 123) HT_ ?_
    refine tk 7 (some 108) HT_ HW_ hHeld ?_
    refine tk 10 (some 111) HT_ HW_ hHeld ?_
    refine tk 13 (some 114) HT_ HW_ hHeld ?_
    refine pu 15 (some 116) HT_ ?_
    refine pu 16 (some 117) HT_ ?_
    refine tk 20 (some 121) HT_ HW_ hHeld ?_
    refine tk 23 (some 124) HT_ HW_ hHeld ?_
    refine on 24 (some 125) HT_ (fun K hK => ?_)
    refine Kd.R_lit_step (Kd.int .i64) _ 3 ?hg (N := 125) ?hd (xs := ([Go.bits .and .i64 (wrap64 ((wrap64 ((wrap64 ((wrap64 ((wrap64 ((rd x8_1 7) + (Go.bits .xor .i64 (Go.bits .xor .i64 t151 t152) t153))) + (Go.bits .xor .i64 (Go.bits .and .i64 (rd x8_1 4) (rd x8_1 5)) (Go.bits .and .i64 (Go.bits .xor .i64 4294967295 (rd x8_1 4)) (rd x8_1 6))))) + (rd l2 x9_1))) + (rd t141 x9_1))) + (wrap64 ((Go.bits .xor .i64 (Go.bits .xor .i64 t160 t161) t162) + (Go.bits .xor .i64 (Go.bits .xor .i64 (Go.bits .and .i64 (rd x8_1 0) (rd x8_1 1)) (Go.bits .and .i64 (rd x8_1 0) (rd x8_1 2))) (Go.bits .and .i64 (rd x8_1 1) (rd x8_1 2))))))) 4294967295, rd x8_1 0, rd x8_1 1, rd x8_1 2, Go.bits .and .i64 (wrap64 ((rd x8_1 3) + (wrap64 ((wrap64 ((wrap64 ((wrap64 ((rd x8_1 7) + (Go.bits .xor .i64 (Go.bits .xor .i64 t151 t152) t153))) + (Go.bits .xor .i64 (Go.bits .and .i64 (rd x8_1 4) (rd x8_1 5)) (Go.bits .and .i64 (Go.bits .xor .i64 4294967295 (rd x8_1 4)) (rd x8_1 6))))) + (rd l2 x9_1))) + (rd t141 x9_1))))) 4294967295, rd x8_1 4, rd x8_1 5, rd x8_1 6] : List Int)) (inner := [.int .i64 (Go.bits .and .i64 (wrap64 ((wrap64 ((wrap64 ((wrap64 ((wrap64 ((rd x8_1 7) + (Go.bits .xor .i64 (Go.bits .xor .i64 t151 t152) t153))) + (Go.bits .xor .i64 (Go.bits .and .i64 (rd x8_1 4) (rd x8_1 5)) (Go.bits .and .i64 (Go.bits .xor .i64 4294967295 (rd x8_1 4)) (rd x8_1 6))))) + (rd l2 x9_1))) + (rd t141 x9_1))) + (wrap64 ((Go.bits .xor .i64 (Go.bits .xor .i64 t160 t161) t162) + (Go.bits .xor .i64 (Go.bits .xor .i64 (Go.bits .and .i64 (rd x8_1 0) (rd x8_1 1)) (Go.bits .and .i64 (rd x8_1 0) (rd x8_1 2))) (Go.bits .and .i64 (rd x8_1 1) (rd x8_1 2))))))) 4294967295), .int .i64 (rd x8_1 0), .int .i64 (rd x8_1 1), .int .i64 (rd x8_1 2), .int .i64 (Go.bits .and .i64 (wrap64 ((rd x8_1 3) + (wrap64 ((wrap64 ((wrap64 ((wrap64 ((rd x8_1 7) + (Go.bits .xor .i64 (Go.bits .xor .i64 t151 t152) t153))) + (Go.bits .xor .i64 (Go.bits .and .i64 (rd x8_1 4) (rd x8_1 5)) (Go.bits .and .i64 (Go.bits .xor .i64 4294967295 (rd x8_1 4)) (rd x8_1 6))))) + (rd l2 x9_1))) + (rd t141 x9_1))))) 4294967295), .int .i64 (rd x8_1 4), .int .i64 (rd x8_1 5), .int .i64 (rd x8_1 6)]) (ok := fun _ => True) (okp := fun _ => True) ?hr ?hp (fun _ hk => hk) trivial (Below.refl _ _) (Nat.le_refl _) (by simp) ?_; (case hd => rfl); (case hg => rfl); (case hr => first | (go_simp; done) | (go_simp; rfl)); (case hp => exact (Reps.one (show Kd.M (Kd.int .i64) _ _ _ (Go.bits .and .i64 (wrap64 ((wrap64 ((wrap64 ((wrap64 ((wrap64 ((rd x8_1 7) + (Go.bits .xor .i64 (Go.bits .xor .i64 t151 t152) t153))) + (Go.bits .xor .i64 (Go.bits .and .i64 (rd x8_1 4) (rd x8_1 5)) (Go.bits .and .i64 (Go.bits .xor .i64 4294967295 (rd x8_1 4)) (rd x8_1 6))))) + (rd l2 x9_1))) + (rd t141 x9_1))) + (wrap64 ((Go.bits .xor .i64 (Go.bits .xor .i64 t160 t161) t162) + (Go.bits .xor .i64 (Go.bits .xor .i64 (Go.bits .and .i64 (rd x8_1 0) (rd x8_1 1)) (Go.bits .and .i64 (rd x8_1 0) (rd x8_1 2))) (Go.bits .and .i64 (rd x8_1 1) (rd x8_1 2))))))) 4294967295) [.int .i64 (Go.bits .and .i64 (wrap64 ((wrap64 ((wrap64 ((wrap64 ((wrap64 ((rd x8_1 7) + (Go.bits .xor .i64 (Go.bits .xor .i64 t151 t152) t153))) + (Go.bits .xor .i64 (Go.bits .and .i64 (rd x8_1 4) (rd x8_1 5)) (Go.bits .and .i64 (Go.bits .xor .i64 4294967295 (rd x8_1 4)) (rd x8_1 6))))) + (rd l2 x9_1))) + (rd t141 x9_1))) + (wrap64 ((Go.bits .xor .i64 (Go.bits .xor .i64 t160 t161) t162) + (Go.bits .xor .i64 (Go.bits .xor .i64 (Go.bits .and .i64 (rd x8_1 0) (rd x8_1 1)) (Go.bits .and .i64 (rd x8_1 0) (rd x8_1 2))) (Go.bits .and .i64 (rd x8_1 1) (rd x8_1 2))))))) 4294967295)] from rfl) (Reps.one (show Kd.M (Kd.int .i64) _ _ _ (rd x8_1 0) [.int .i64 (rd x8_1 0)] from rfl) (Reps.one (show Kd.M (Kd.int .i64) _ _ _ (rd x8_1 1) [.int .i64 (rd x8_1 1)] from rfl) (Reps.one (show Kd.M (Kd.int .i64) _ _ _ (rd x8_1 2) [.int .i64 (rd x8_1 2)] from rfl) (Reps.one (show Kd.M (Kd.int .i64) _ _ _ (Go.bits .and .i64 (wrap64 ((rd x8_1 3) + (wrap64 ((wrap64 ((wrap64 ((wrap64 ((rd x8_1 7) + (Go.bits .xor .i64 (Go.bits .xor .i64 t151 t152) t153))) + (Go.bits .xor .i64 (Go.bits .and .i64 (rd x8_1 4) (rd x8_1 5)) (Go.bits .and .i64 (Go.bits .xor .i64 4294967295 (rd x8_1 4)) (rd x8_1 6))))) + (rd l2 x9_1))) + (rd t141 x9_1))))) 4294967295) [.int .i64 (Go.bits .and .i64 (wrap64 ((rd x8_1 3) + (wrap64 ((wrap64 ((wrap64 ((wrap64 ((rd x8_1 7) + (Go.bits .xor .i64 (Go.bits .xor .i64 t151 t152) t153))) + (Go.bits .xor .i64 (Go.bits .and .i64 (rd x8_1 4) (rd x8_1 5)) (Go.bits .and .i64 (Go.bits .xor .i64 4294967295 (rd x8_1 4)) (rd x8_1 6))))) + (rd l2 x9_1))) + (rd t141 x9_1))))) 4294967295)] from rfl) (Reps.one (show Kd.M (Kd.int .i64) _ _ _ (rd x8_1 4) [.int .i64 (rd x8_1 4)] from rfl) (Reps.one (show Kd.M (Kd.int .i64) _ _ _ (rd x8_1 5) [.int .i64 (rd x8_1 5)] from rfl) (Reps.one (show Kd.M (Kd.int .i64) _ _ _ (rd x8_1 6) [.int .i64 (rd x8_1 6)] from rfl) (Reps.none _ _))))))))))
    intro v173 w34 ho35 hb hg_ hnew_
    have HS0_ := (hb.cell (World.block_lt_of_cell? _ _ (hHeld.1))).trans (hHeld.1)
    have HS1_ := (hb.cell (World.block_lt_of_cell? _ _ (hHeld.2.1))).trans (hHeld.2.1)
    have HS2_ := (hb.cell (World.block_lt_of_cell? _ _ (hHeld.2.2.1))).trans (hHeld.2.2.1)
    have HS3_ := (hb.cell (World.block_lt_of_cell? _ _ (hHeld.2.2.2.1))).trans (hHeld.2.2.2.1)
    have HS4_ := (hb.cell (World.block_lt_of_cell? _ _ (hHeld.2.2.2.2.1))).trans (hHeld.2.2.2.2.1)
    clear hg_ hnew_
    (first | rw [← Ny172.out] at ho35 | (simp only [Int.reduceToNat] at ho35; rw [← Ny172.out] at ho35))
    have HO174 := mk0 (Kd.R_lower (Kd.R_new' (Kd.R_new' ho35 (Kd.R_lt (rr HO_7.out))) (Kd.R_lt (rr HO_8.out))) bs)
    replace HO_7 := mk0 (Kd.R_elder' (rr HO_7.out) (Kd.R_base ho35) hb)
    replace HO_8 := mk0 (Kd.R_elder' (rr HO_8.out) (Kd.R_base ho35) hb)
    replace HB := mk0 (below_step bw hb)
    clear hb ho35
    refine hK.out _ _ ah (fun hHeld => ?_)
    clear hK K
    refine nr (some 125) ?_
    refine pu 25 (some 8) HT_ ?_
    refine dn HT_ ?_
    try go_wp2
    go_roundg k1
    case measure => have := HK1.out; omega
    case rel => exact ⟨(y172), (wrap64 (x9_1 + 1)), sv, H', hk1, ⟨by (with_reducible repeat (first | apply Kd.R_alloc | apply Kd.R_drewN | apply Kd.R_drew)); exact Kd.R_mono HO_7.out (fun _ hk => hk.2)⟩, ⟨by (with_reducible repeat (first | apply Kd.R_alloc | apply Kd.R_drewN | apply Kd.R_drew)); exact Kd.R_mono HO174.out (fun _ hk => hk.1.2)⟩, ⟨bw⟩⟩
  · have H' := mk0 H
    clear H
    go_wp2
    go_loopg [18] k1 (fun kq v18 w' => ∃ (x8_2 : List Int) (x18_2 : Int), v18 = .int .i64 x18_2 ∧ Aside0 (spec_l2Block.l1 kq l0 x8_2 x18_2 = some r) ∧ Aside0 (kq ≤ k1) ∧ Aside0 (Kd.R (Kd.int .i64) 3 w' w.heap.size (fun _ => True) u8 x8_2) ∧ Aside0 (Below w.heap.size w w'))
    case atStart => exact ⟨(x8_1), (0), sv, H', nl, ⟨by (with_reducible repeat (first | apply Kd.R_alloc | apply Kd.R_drewN | apply Kd.R_drew)); exact Kd.R_mono HO_8.out (fun _ hk => trivial)⟩, ⟨bw⟩⟩
    case round =>
     clear H'
     (try clear c1); (try clear c10b0); (try clear c11); (try clear c15); (try clear c16); (try clear c17); (try clear c21); (try clear c25); (try clear c26); (try clear c27); (try clear hx159_0); (try clear hx163_0); (try clear hx164_0); (try clear hx165_0); (try clear hx166_0); (try clear hx167_0); (try clear hx168_0); (try clear hx169_0); (try clear hx170_0); (try clear hx171_0); (try clear p159); (try clear p163); (try clear p164); (try clear p165); (try clear p166); (try clear p167); (try clear p168); (try clear p169); (try clear p170); (try clear p171); (try clear q159); (try clear q163); (try clear q164); (try clear q165); (try clear q166); (try clear q167); (try clear q168); (try clear q169); (try clear q170); (try clear q171)
     obtain ⟨x8_2, x18_2, rfl, HA, HK2, HO_8, HB⟩ := hrel
     rcases gk with _ | k2
     · exact absurd HA.out (by simp [spec_l2Block.l1])
     have H := HA.out
     clear HA
     simp only [spec_l2Block.l1] at H
     replace H := idd H; rcases H with ⟨c36b0, H⟩ | ⟨c36b0, H⟩
     · replace H := gd H; obtain ⟨c37b0, H⟩ := H
       replace H := gd H; obtain ⟨c38b0, H⟩ := H
       replace H := gd H; obtain ⟨c39b0, H⟩ := H
       obtain ⟨y177, Ny177⟩ := nm (x8_2.set (x18_2 : Int).toNat (Go.bits .and .i64 (wrap64 ((rd x8_2 x18_2) + (rd l0 x18_2))) 4294967295))
       rw [← Ny177.out] at H
       have H' := mk0 H
       clear H
       try go_wp2
       replace HO_8 := mk0 (Kd.R_drew HO_8.out)
       replace HB := mk0 (below_drew1 HB.out)
       obtain ⟨Ao42, co42, eo42⟩ := Kd.R_slice HO_8.out
       (first | subst eo42 | (injection eo42 with f1_ f2_ f3_; have f4_ := f1_.symm; have f5_ := f3_.symm; clear f1_ f2_ f3_; subst f4_; subst f5_))
       have p175 : 0 ≤ (x18_2 : Int) := oa
       have q175 : x18_2 < (x8_2.length : Int) := oa
       obtain ⟨ad175, e175, hx175_0⟩ := Kd.at_int (Kd.R_reads' HO_8.out).2.2 x18_2 p175 q175
       cases e175
       replace p175 := eq_true p175
       replace q175 := eq_true q175
       have p176 : 0 ≤ (x18_2 : Int) := oa
       have q176 : x18_2 < (l0.length : Int) := oa
       obtain ⟨ad176, e176, hx176_0⟩ := Kd.at_int HR0.out x18_2 p176 q176
       have hw176_0 := hx176_0
       cases e176
       replace hx176_0 := hc HB hx176_0
       replace p176 := eq_true p176
       replace q176 := eq_true q176
       have p40 : 0 ≤ (x18_2 : Int) := oa
       have q40 : (x18_2 : Int) < ((x8_2.length : Int) : Int) := oa
       obtain ⟨go40, co40, eo40, gb40, gl40, cl40, HG40⟩ := Kd.R_form HO_8.out (by omega)
       (first | cases eo40 | (injection eo40 with ea_ en_ ec_; (first | subst ea_ | (injection ea_ with ea_; subst ea_)); subst ec_; clear en_))
       have GB40 := mk0 gb40
       have GG40 := mk0 HG40
       clear gb40 gl40 HG40
       (first | simp only [add_plain] at hx175_0 | skip)
       obtain ⟨hx40_0, hf40_0⟩ := Kd.R_celln 0 HO_8.out (x18_2 : Int) p40 q40
       replace p40 := eq_true p40
       replace q40 := eq_true q40
       have HP43 := Kd.R_putn HO_8.out (x18_2 : Int) (Go.bits .and .i64 (wrap64 ((rd x8_2 x18_2) + (rd l0 x18_2))) 4294967295)
       rw [← Ny177.out] at HP43
       have HQ43 := mk0 HP43
       clear HP43
       refine start_ (n := 14) (S := fun w' => w'.cell? ⟨go40, (x18_2).toNat, none⟩ = some (.int .i64 (rd x8_2 x18_2)) ∧ w'.cell? (ad176.add (x18_2).toNat) = some (.int .i64 (rd l0 x18_2))) (ds := [13]) #[false, false, false, false, false, false, false, false, false, false, false, false, false, false] (by kernel_rfl) rfl rfl ⟨hx175_0, ((HB.out.cell (World.block_lt_of_cell? w _ hw176_0)).trans hw176_0)⟩ (fun hHeld => ?_); refine with_tabW spec_l2Block.tab18 spec_l2Block.bits18 (fun HT_ HW_ => ?_)
       generalize wr.drew = w41 at HO_8 HB GG40 HQ43 hf40_0 hx175_0 hx176_0 hx40_0 hHeld ⊢
       refine pu 0 (some 130) HT_ ?_
       refine pu 1 (some 131) HT_ ?_
       refine pu 2 (some 132) HT_ ?_
       refine pu 3 (some 133) HT_ ?_
       refine pu 4 (some 134) HT_ ?_
       refine pu 6 (some 136) HT_ ?_
       refine pu 7 (some 137) HT_ ?_
       refine pu 8 (some 138) HT_ ?_
       refine tk 5 (some 135) HT_ HW_ hHeld ?_
       refine tk 9 (some 139) HT_ HW_ hHeld ?_
       refine pu 10 (some 140) HT_ ?_
       refine pu 11 (some 141) HT_ ?_
       refine pu 12 (some 142) HT_ ?_
       refine last_ (i := 13) (N := none) #[true, true, true, true, true, true, true, true, true, true, true, true, true, true] rfl rfl (one_of HT_.out (by kernel_rfl)) (by decide) (fun K hK => ?_)
       refine skip_ (w1 := ?_) (by rfl) rfl ?_ ?_
       rotate_left
       · go_simp
         rfl
       refine hK.out _ _ ?_
       clear hK K
       refine dn HT_ ?_
       try go_wp2
       go_roundg k2
       case measure => have := HK1.out; have := HK2.out; omega
       case rel => exact ⟨(y177), (wrap64 (x18_2 + 1)), sv, H', hk2, ⟨rr HQ43.out⟩, ⟨(bg GB40)⟩⟩
     · obtain rfl := Option.some.inj H
       go_wp2
       go_ret
       exact ⟨_, sw, rr HO_8.out, bw⟩
end Go.Proofs.Ytlekeiokdmnboaa.Pa
end

section
namespace Go.Proofs.Ytlekeiokdmnboaa.Pa
open Go.RowKit Go.Proofs.YtlekeiokdmnboaaW.PrintWords Go.Proofs.YtlekeiokdmnboaaW.PrintLast Go.Proofs.YtlekeiokdmnboaaW.PrintMore Go.Proofs.Ytlekeiokdmnboaa.M
attribute [local go_sem] max2_int min2_int max_two min_two max_three min_three max_four min_four   -- for this text's walks alone
set_option linter.unusedVariables false
set_option maxHeartbeats 8000000
set_option maxRecDepth 100000
set_option linter.unusedSimpArgs false

/-! ### spec_Digest: function 35 -/
mutual
def spec_Digest.l0 : Nat → List Int → List Int → List Int → Int → Option (ByteArray)
  | 0, _, _, _, _ => none
  | k + 1, x3, x4, x5, x6 => if x6 < (x3.length : Int) then (if 0 ≤ x6 then (if x6 ≤ (wrap64 (x6 + 64)) then (if (wrap64 (x6 + 64)) ≤ (x3.length : Int) then ((spec_l2Block.f k x4 ((x3.take ((wrap64 (x6 + 64)) : Int).toNat).drop (x6 : Int).toNat) x5).bind fun t191 => (spec_Digest.l0 k x3 t191 x5 (wrap64 (x6 + 64)))) else (none)) else (none)) else (none)) else (spec_Digest.l1 k x4 (([] : List Int)) 0)
def spec_Digest.l1 : Nat → List Int → List Int → Int → Option (ByteArray)
  | 0, _, _, _ => none
  | k + 1, x4, x7, x8 => if x8 < 8 then (if 0 ≤ x8 then (if x8 < (x4.length : Int) then ((some (([((rd x4 x8) / 16777216) % 256, ((rd x4 x8) / 65536) % 256, ((rd x4 x8) / 256) % 256, (rd x4 x8) % 256] : List Int) : List Int)).bind fun y201 => (if x7.length + y201.length < 140737488355328 then (spec_Digest.l1 k x4 (x7 ++ y201) (wrap64 (x8 + 1))) else (none))) else (none)) else (none)) else (some (strOfNums x7))
end
def spec_Digest.f (k : Nat) (l0 : List Int) : Option (ByteArray) := (spec_Padded.f k l0).bind fun t178 => ((spec_l2K.f).bind fun t184 => (spec_Digest.l0 k t178 (([1779033703, 3144134277, 1013904242, 2773480762, 1359893119, 2600822924, 528734635, 1541459225] : List Int)) t184 0))
theorem spec_Digest.mono_l : ∀ k, (∀ y0 y1 y2 y3, LeO (spec_Digest.l0 k y0 y1 y2 y3) (spec_Digest.l0 (k + 1) y0 y1 y2 y3)) ∧ (∀ y0 y1 y2, LeO (spec_Digest.l1 k y0 y1 y2) (spec_Digest.l1 (k + 1) y0 y1 y2))
  | 0 => ⟨fun _ _ _ _ r h => by simp [spec_Digest.l0] at h, fun _ _ _ r h => by simp [spec_Digest.l1] at h⟩
  | k + 1 => by
    obtain ⟨ih0, ih1⟩ := spec_Digest.mono_l k
    refine ⟨?_, ?_⟩
    · intro y0 y1 y2 y3
      unfold spec_Digest.l0
      have m0 := @spec_Padded.mono
      have m1 := @spec_l2Block.mono
      exact me
    · intro y0 y1 y2
      unfold spec_Digest.l1
      have m0 := @spec_Padded.mono
      have m1 := @spec_l2Block.mono
      exact me
theorem spec_Digest.mono : ∀ a0 k, LeO (spec_Digest.f k a0) (spec_Digest.f (k + 1) a0) := by
  intro a0 k
  obtain ⟨ih0, ih1⟩ := spec_Digest.mono_l k
  unfold spec_Digest.f
  have m0 := @spec_Padded.mono
  have m1 := @spec_l2Block.mono
  exact me
def spec_Digest.T12 : Bool × List (List Nat × List Nat) := (true, [([], []), ([], []), ([], []), ([1, 2], [1, 2]), ([3], [3]), ([4], [4]), ([5], [5]), ([], []), ([], []), ([7, 8], [7, 8]), ([9], [9]), ([10], [10]), ([11], [11]), ([], []), ([], []), ([13, 14], [13, 14]), ([15], [15]), ([16], [16]), ([17], [17]), ([], []), ([], []), ([19, 20], [19, 20]), ([21], [21]), ([22], [22]), ([6, 12, 18, 23], [6, 12, 18, 23]), ([0, 24], [0, 24]), ([25, 25, 0, 1, 2, 3, 4, 5, 6, 7, 8, 9, 10, 11, 12, 13, 14, 15, 16, 17, 18, 19, 20, 21, 22, 23, 24, 25], [0, 25])])
def spec_Digest.B12 : List Nat := [0, 0, 0, 6, 14, 30, 62, 0, 0, 384, 896, 1920, 3968, 0, 0, 24576, 57344, 122880, 253952, 0, 0, 1572864, 3670016, 7864320, 16777214, 33554431, 67108863]
theorem spec_Digest.tab12 : rtab .any (opsOf Try.f35 12) = spec_Digest.T12 := by kernel_rfl
theorem spec_Digest.bits12 : waitsOk spec_Digest.T12.2 spec_Digest.B12 = true := by kernel_rfl
theorem spec_Digest.calls (k : Nat) (A0 : Option Addr) (c0 : Nat) (l0 : List Int) (r : ByteArray) (w : World) (hr0 : Kd.C (Kd.int .u8) w A0 l0.length l0) (hc0 : l0.length ≤ c0) (h : spec_Digest.f k l0 = some r) :
    Calls Try.prog 35 #[.slice A0 l0.length c0] w fun e w' => e = .returned (.string r) ∧ Below w.heap.size w w' := by
 have HR0 := mk0 hr0
 have HC0 := mk0 hc0
 clear hr0 hc0
 have HB := mk0 (Below.refl w.heap.size w)
 have H : ((spec_Padded.f k l0).bind fun t178 => ((spec_l2K.f).bind fun t184 => (spec_Digest.l0 k t178 (([1779033703, 3144134277, 1013904242, 2773480762, 1359893119, 2600822924, 528734635, 1541459225] : List Int)) t184 0))) = some r := h
 clear h
 replace H := bd H; obtain ⟨t178, A2, H⟩ := H
 obtain ⟨y181, hy181⟩ : ∃ y_ : List Int, y_ = (([1779033703, 3144134277, 1013904242, 2773480762, 1359893119, 2600822924, 528734635, 1541459225] : List Int)) := ⟨_, rfl⟩
 replace H : ((spec_l2K.f).bind fun t184 => (spec_Digest.l0 k t178 y181 t184 0)) = some r := by first | (rw [hy181]; with_reducible exact H) | (have H2_ := (Option.bind_some _ _).symm.trans H; rw [hy181]; with_reducible exact H2_) | (have H2_ := (Option.bind_some _ _).symm.trans H; with_reducible exact H2_) | with_reducible exact H | (rw [hy181]; exact H) | exact H
 have Ny181 := mk0 hy181
 clear hy181
 replace H := bd H; obtain ⟨t184, A3, H⟩ := H
 have H' := mk0 H
 clear H
 go_enter Try.func35, Try.ntmps35
 go_wp2_with (first | ((with_reducible refine gC 59 (some 10) rfl rfl ?_); refine gR (some 10) Try.func59 #[.slice A0 l0.length c0] (spec_Padded.calls k _ _ l0 t178 _ (cc HR0.out) HC0.out A2.out) ?_; intro v179 w4 ho0 hb; have HO180 := mk0 (Kd.R_lower ho0 bs); replace HB := mk0 (below_step bw hb); clear hb ho0) | ((with_reducible refine gD 11 rfl ?_); refine lt (Kd.int .i64) 3 11 ([1779033703, 3144134277, 1013904242, 2773480762, 1359893119, 2600822924, 528734635, 1541459225] : List Int) [.int .i64 1779033703, .int .i64 3144134277, .int .i64 1013904242, .int .i64 2773480762, .int .i64 1359893119, .int .i64 2600822924, .int .i64 528734635, .int .i64 1541459225] ?_; intro v182 w5 ho6 hb hg_ hnew_; clear hg_ hnew_; (first | rw [← Ny181.out] at ho6 | (simp only [Int.reduceToNat] at ho6; rw [← Ny181.out] at ho6)); replace HO180 := mk0 (Kd.R_below (rr HO180.out) hb); have HO183 := mk0 (Kd.R_lower ho6 bs); replace HB := mk0 (below_step bw hb); clear hb ho6) | ((with_reducible refine gC 60 (some 12) rfl rfl ?_); refine gR (some 12) Try.func60 #[] (spec_l2K.calls  t184 _ A3.out) ?_; intro v185 w7 ho0 hb; replace HO180 := mk0 (Kd.R_below (rr HO180.out) hb); have HO186 := mk0 (Kd.R_lower (Kd.R_new' ho0 (Kd.R_lt (rr HO183.out))) bs); replace HO183 := mk0 (Kd.R_elder' (rr HO183.out) (Kd.R_base ho0) hb); replace HB := mk0 (below_step bw hb); clear hb ho0))
 go_loopg [4, 6] k (fun kq v4 v6 w' => ∃ (x4_1 : List Int) (x6_1 : Int), v6 = .int .i64 x6_1 ∧ Aside0 (spec_Digest.l0 kq t178 x4_1 t184 x6_1 = some r) ∧ Aside0 (kq ≤ k) ∧ Aside0 (Kd.R (Kd.int .u8) 5 w' w.heap.size (fun _ => True) v179 t178) ∧ Aside0 (Kd.R (Kd.int .i64) 3 w' w.heap.size (fun k_ => some k_ ≠ (v185 : Value).ownBlock) v4 x4_1) ∧ Aside0 (Kd.R (Kd.int .i64) 3 w' w.heap.size (fun k_ => some k_ ≠ (v4 : Value).ownBlock) v185 t184) ∧ Aside0 (Below w.heap.size w w'))
 case atStart => exact ⟨(y181), (0), sv, H', nl, ⟨rr HO180.out⟩, ⟨by (with_reducible repeat (first | apply Kd.R_alloc | apply Kd.R_drewN | apply Kd.R_drew)); exact Kd.R_mono HO183.out (fun _ hk => hk.2)⟩, ⟨by (with_reducible repeat (first | apply Kd.R_alloc | apply Kd.R_drewN | apply Kd.R_drew)); exact Kd.R_mono HO186.out (fun _ hk => hk.2)⟩, ⟨bw⟩⟩
 case round =>
  clear H'
  obtain ⟨x4_1, x6_1, rfl, HA, HK1, HO_3, HO_4, HO_5, HB⟩ := hrel
  rcases gk with _ | k1
  · exact absurd HA.out (by simp [spec_Digest.l0])
  have H := HA.out
  clear HA
  simp only [spec_Digest.l0] at H
  replace H := idd H; rcases H with ⟨c8b0, H⟩ | ⟨c8b0, H⟩
  · replace H := ge H; obtain ⟨c9b0, c9b1, H⟩ := H
    replace H := gp H; obtain ⟨c10, H⟩ := H
    have c10b0 := eq_true c10
    have c10b1 : decide (x6_1 ≤ (wrap64 (x6_1 + 64))) = true := decide_eq_true c10
    replace H := gp H; obtain ⟨c11, H⟩ := H
    have c11b0 := eq_true c11
    have c11b1 : decide ((wrap64 (x6_1 + 64)) ≤ (t178.length : Int)) = true := decide_eq_true c11
    obtain ⟨y187, Ny187⟩ := nm ((t178.take ((wrap64 (x6_1 + 64)) : Int).toNat).drop (x6_1 : Int).toNat)
    rw [← Ny187.out] at H
    replace H := bd H; obtain ⟨t191, A12, H⟩ := H
    have H' := mk0 H
    clear H
    obtain ⟨Ao13, co13, eo13⟩ := Kd.R_slice HO_3.out
    subst eo13
    have q14 : ((wrap64 (x6_1 + 64)) : Int) ≤ ((t178.length : Int) : Int) := oa
    obtain ⟨i014, hi014, _, hsz14, _⟩ := info_parts info5
    have hroom14 : t178.length ≤ co13 := (Kd.R_reads' HO_3.out).2.1
    have hC14 : Kd.C (Kd.int .u8) _ Ao13 t178.length t178 := (Kd.R_reads' HO_3.out).2.2
    have ql14 : (x6_1 : Int) ≤ ((wrap64 (x6_1 + 64)) : Int) := oa
    have q014 : (0 : Int) ≤ (x6_1 : Int) := oa
    have hcut14 := cut_mid (P := Try.prog) 36 5 .i64 .i64 Try.underlying36 hi014 1 hsz14 Ao13 t178.length co13 x6_1 (wrap64 (x6_1 + 64)) q014 ql14 q14 hroom14
    have hr14 := Kd.C_mid (lo := (x6_1 : Int).toNat) (hi := ((wrap64 (x6_1 + 64)) : Int).toNat) (c := co13) hC14 (by omega) (by omega) hroom14
    obtain ⟨A14, hA14⟩ : ∃ A1, A1 = (if co13 = (x6_1 : Int).toNat then Ao13 else (Ao13 : Option Addr).map (·.add ((x6_1 : Int).toNat * 1))) := ⟨_, rfl⟩
    obtain ⟨c14, hc14⟩ : ∃ c1, c1 = co13 - (x6_1 : Int).toNat := ⟨_, rfl⟩
    have hy14 : y187.length = ((wrap64 (x6_1 + 64)) : Int).toNat - (x6_1 : Int).toNat := (by rw [Ny187.out, List.length_drop, List.length_take] <;> omega)
    rw [show ((t178).take ((wrap64 (x6_1 + 64)) : Int).toNat).drop (x6_1 : Int).toNat = y187 from Ny187.out.symm] at hr14
    replace hr14 : Kd.C (Kd.int .u8) _ A14 y187.length y187 := (by rw [hA14]; exact hr14)
    rw [← hy14, ← hA14, ← hc14] at hcut14
    have HR190 := mk0 hr14
    have HC190 := mk0 (show y187.length ≤ c14 from by rw [hy14, hc14]; exact Nat.sub_le_sub_right (Nat.le_trans (by omega) hroom14) _)
    clear hr14 hC14 hroom14 hi014 hsz14 hc14
    have KY14 := mk0 hy14
    have KA14 := mk0 hA14
    clear hy14 hA14
    have KL14 := mk0 (show ((wrap64 (x6_1 + 64)) : Int).toNat ≤ t178.length from by omega)
    have KM14 := mk0 (show (x6_1 : Int).toNat ≤ ((wrap64 (x6_1 + 64)) : Int).toNat from by omega)
    replace q14 := eq_true q14
    obtain ⟨Ao15, co15, eo15⟩ := Kd.R_slice HO_4.out
    subst eo15
    obtain ⟨Ao16, co16, eo16⟩ := Kd.R_slice HO_5.out
    subst eo16
    go_wp2_with (first | ((with_reducible refine gC 61 (some 26) rfl rfl ?_); refine gR (some 26) Try.func61 #[.slice Ao15 x4_1.length co15, .slice A14 y187.length c14, .slice Ao16 t184.length co16] (spec_l2Block.calls k1 _ _ x4_1 _ _ y187 _ _ t184 t191 _ (cc ((Kd.R_reads' HO_4.out).2.2)) ((Kd.R_reads' HO_4.out).2.1) ?side3 HC190.out (cc ((Kd.R_reads' HO_5.out).2.2)) ((Kd.R_reads' HO_5.out).2.1) A12.out) ?_; (case side3 => repeat (first | exact (by repeat (first | (with_reducible exact HR190.out) | (with_reducible refine Kd.C_alloc ?_ _) | (with_reducible refine Kd.C_drewN ?_ _) | (with_reducible refine Kd.C_drew ?_) | exact HR190.out)) | (with_reducible refine Kd.C_alloc ?_ _) | (with_reducible refine Kd.C_drewN ?_ _) | (with_reducible refine Kd.C_drew ?_))); intro v192 w17 ho0 hb; replace HO_3 := mk0 (Kd.R_below (rr HO_3.out) hb); have HO193 := mk0 (Kd.R_lower (Kd.R_new' (Kd.R_new' ho0 (Kd.R_lt (rr HO_4.out))) (Kd.R_lt (rr HO_5.out))) bs); replace HO_4 := mk0 (Kd.R_elder' (rr HO_4.out) (Kd.R_base ho0) hb); replace HO_5 := mk0 (Kd.R_elder' (rr HO_5.out) (Kd.R_base ho0) hb); replace HR190 := mk0 (Kd.C_below (by repeat (first | (with_reducible exact HR190.out) | (with_reducible refine Kd.C_alloc ?_ _) | (with_reducible refine Kd.C_drewN ?_ _) | (with_reducible refine Kd.C_drew ?_) | exact HR190.out)) hb); replace HB := mk0 (below_step bw hb); clear hb ho0))
    go_roundg k1
    case measure => have := HK1.out; omega
    case rel => exact ⟨(t191), (wrap64 (x6_1 + 64)), sv, H', hk1, ⟨rr HO_3.out⟩, ⟨by (with_reducible repeat (first | apply Kd.R_alloc | apply Kd.R_drewN | apply Kd.R_drew)); exact Kd.R_mono HO193.out (fun _ hk => hk.2)⟩, ⟨by (with_reducible repeat (first | apply Kd.R_alloc | apply Kd.R_drewN | apply Kd.R_drew)); exact Kd.R_mono HO_5.out (fun _ hk => hk.2)⟩, ⟨bw⟩⟩
  · obtain ⟨y194, hy194⟩ : ∃ y_ : List Int, y_ = (([] : List Int)) := ⟨_, rfl⟩
    replace H : (spec_Digest.l1 k1 x4_1 y194 0) = some r := by first | (rw [hy194]; with_reducible exact H) | (have H2_ := (Option.bind_some _ _).symm.trans H; rw [hy194]; with_reducible exact H2_) | (have H2_ := (Option.bind_some _ _).symm.trans H; with_reducible exact H2_) | with_reducible exact H | (rw [hy194]; exact H) | exact H
    have Ny194 := mk0 hy194
    clear hy194
    have H' := mk0 H
    clear H
    obtain ⟨Ao18, co18, eo18⟩ := Kd.R_slice HO_3.out
    subst eo18
    go_wp2_with (first | ((with_reducible refine gD 27 rfl ?_); refine lt (Kd.int .u8) 5 27 ([] : List Int) [] ?_; intro v195 w19 ho20 hb hg_ hnew_; clear hg_ hnew_; (first | rw [← Ny194.out] at ho20 | (simp only [Int.reduceToNat] at ho20; rw [← Ny194.out] at ho20)); replace HO_4 := mk0 (Kd.R_below (rr HO_4.out) hb); replace HO_5 := mk0 (Kd.R_below (rr HO_5.out) hb); have HO196 := mk0 (Kd.R_lower (Kd.R_new' ho20 (Kd.R_lt (rr HO_3.out))) bs); replace HO_3 := mk0 (Kd.R_elder' (rr HO_3.out) (Kd.R_base ho20) hb); replace HB := mk0 (below_step bw hb); clear hb ho20))
    go_loopg [7, 8] k1 (fun kq v7 v8 w' => ∃ (x7_2 : List Int) (x8_2 : Int), v8 = .int .i64 x8_2 ∧ Aside0 (spec_Digest.l1 kq x4_1 x7_2 x8_2 = some r) ∧ Aside0 (kq ≤ k1) ∧ Aside0 (Kd.R (Kd.int .i64) 3 w' w.heap.size (fun _ => True) u4 x4_1) ∧ Aside0 (Kd.R (Kd.int .u8) 5 w' w.heap.size (fun _ => True) v7 x7_2) ∧ Aside0 (Below w.heap.size w w'))
    case atStart => exact ⟨(y194), (0), sv, H', nl, ⟨by (with_reducible repeat (first | apply Kd.R_alloc | apply Kd.R_drewN | apply Kd.R_drew)); exact Kd.R_mono HO_4.out (fun _ hk => trivial)⟩, ⟨by (with_reducible repeat (first | apply Kd.R_alloc | apply Kd.R_drewN | apply Kd.R_drew)); exact Kd.R_mono HO196.out (fun _ hk => trivial)⟩, ⟨bw⟩⟩
    case round =>
     clear H'
     (try clear c1); (try clear c8b0); (try clear c9b0); (try clear c9b1); (try clear c10); (try clear c10b0); (try clear c10b1); (try clear c11); (try clear c11b0); (try clear c11b1); (try clear c14); (try clear q14); (try clear q014); (try clear q14)
     obtain ⟨x7_2, x8_2, rfl, HA, HK2, HO_4, HO_7, HB⟩ := hrel
     rcases gk with _ | k2
     · exact absurd HA.out (by simp [spec_Digest.l1])
     have H := HA.out
     clear HA
     simp only [spec_Digest.l1] at H
     replace H := idd H; rcases H with ⟨c21b0, H⟩ | ⟨c21b0, H⟩
     · replace H := gd H; obtain ⟨c22b0, H⟩ := H
       replace H := gd H; obtain ⟨c23b0, H⟩ := H
       replace H := bz H; obtain ⟨y201, Ny201, H⟩ := H
       replace H := gl H; obtain ⟨LMc24, H⟩ := H
       obtain ⟨y204, Ny204⟩ := nm (x7_2 ++ y201)
       rw [← Ny204.out] at H
       have H' := mk0 H
       clear H
       try go_wp2
       replace HO_4 := mk0 (Kd.R_drew HO_4.out)
       replace HO_7 := mk0 (Kd.R_drew HO_7.out)
       replace HB := mk0 (below_drew1 HB.out)
       obtain ⟨Ao26, co26, eo26⟩ := Kd.R_slice HO_4.out
       (first | subst eo26 | (injection eo26 with f1_ f2_ f3_; have f4_ := f1_.symm; have f5_ := f3_.symm; clear f1_ f2_ f3_; subst f4_; subst f5_))
       have p197 : 0 ≤ (x8_2 : Int) := oa
       have q197 : x8_2 < (x4_1.length : Int) := oa
       obtain ⟨ad197, e197, hx197_0⟩ := Kd.at_int (Kd.R_reads' HO_4.out).2.2 x8_2 p197 q197
       cases e197
       replace p197 := eq_true p197
       replace q197 := eq_true q197
       have p198 : 0 ≤ (x8_2 : Int) := oa
       have q198 : x8_2 < (x4_1.length : Int) := oa
       obtain ⟨ad198, e198, hx198_0⟩ := Kd.at_int (Kd.R_reads' HO_4.out).2.2 x8_2 p198 q198
       obtain rfl : ad197 = ad198 := (by injection e198)
       replace p198 := eq_true p198
       replace q198 := eq_true q198
       have p199 : 0 ≤ (x8_2 : Int) := oa
       have q199 : x8_2 < (x4_1.length : Int) := oa
       obtain ⟨ad199, e199, hx199_0⟩ := Kd.at_int (Kd.R_reads' HO_4.out).2.2 x8_2 p199 q199
       obtain rfl : ad197 = ad199 := (by injection e199)
       replace p199 := eq_true p199
       replace q199 := eq_true q199
       have p200 : 0 ≤ (x8_2 : Int) := oa
       have q200 : x8_2 < (x4_1.length : Int) := oa
       obtain ⟨ad200, e200, hx200_0⟩ := Kd.at_int (Kd.R_reads' HO_4.out).2.2 x8_2 p200 q200
       obtain rfl : ad197 = ad200 := (by injection e200)
       replace p200 := eq_true p200
       replace q200 := eq_true q200
       refine start_ (n := 27) (S := fun w' => w'.cell? (ad197.add (x8_2).toNat) = some (.int .i64 (rd x4_1 x8_2)) ∧ w'.cell? (ad197.add (x8_2).toNat) = some (.int .i64 (rd x4_1 x8_2)) ∧ w'.cell? (ad197.add (x8_2).toNat) = some (.int .i64 (rd x4_1 x8_2)) ∧ w'.cell? (ad197.add (x8_2).toNat) = some (.int .i64 (rd x4_1 x8_2))) (ds := [25]) #[false, false, false, false, false, false, false, false, false, false, false, false, false, false, false, false, false, false, false, false, false, false, false, false, false, false, false] (by kernel_rfl) rfl rfl ⟨hx197_0, hx198_0, hx199_0, hx200_0⟩ (fun hHeld => ?_); refine with_tabW spec_Digest.tab12 spec_Digest.bits12 (fun HT_ HW_ => ?_)
       generalize wr.drew = w25 at HO_4 HO_7 HB hx197_0 hx198_0 hx199_0 hx200_0 hHeld ⊢
       refine pu 0 (some 32) HT_ ?_
       refine pu 1 (some 33) HT_ ?_
       refine pu 2 (some 34) HT_ ?_
       refine pu 3 (some 35) HT_ ?_
       refine pu 7 (some 39) HT_ ?_
       refine pu 8 (some 40) HT_ ?_
       refine pu 9 (some 41) HT_ ?_
       refine pu 13 (some 45) HT_ ?_
       refine pu 14 (some 46) HT_ ?_
       refine pu 15 (some 47) HT_ ?_
       refine pu 19 (some 51) HT_ ?_
       refine pu 20 (some 52) HT_ ?_
       refine pu 21 (some 53) HT_ ?_
       refine tk 4 (some 36) HT_ HW_ hHeld ?_
       refine pu 5 (some 37) HT_ ?_
       refine pu 6 (some 38) HT_ ?_
       refine tk 10 (some 42) HT_ HW_ hHeld ?_
       refine pu 11 (some 43) HT_ ?_
       refine pu 12 (some 44) HT_ ?_
       refine tk 16 (some 48) HT_ HW_ hHeld ?_
       refine pu 17 (some 49) HT_ ?_
       refine pu 18 (some 50) HT_ ?_
       refine tk 22 (some 54) HT_ HW_ hHeld ?_
       refine pu 23 (some 55) HT_ ?_
       refine on 24 (some 56) HT_ (fun K hK => ?_)
       refine Kd.R_lit_step (Kd.int .u8) _ 5 ?hg (N := 56) ?hd (xs := ([((rd x4_1 x8_2) / 16777216) % 256, ((rd x4_1 x8_2) / 65536) % 256, ((rd x4_1 x8_2) / 256) % 256, (rd x4_1 x8_2) % 256] : List Int)) (inner := [.int .u8 (((rd x4_1 x8_2) / 16777216) % 256), .int .u8 (((rd x4_1 x8_2) / 65536) % 256), .int .u8 (((rd x4_1 x8_2) / 256) % 256), .int .u8 ((rd x4_1 x8_2) % 256)]) (ok := fun _ => True) (okp := fun _ => True) ?hr ?hp (fun _ hk => hk) trivial (Below.refl _ _) (Nat.le_refl _) (by simp) ?_; (case hd => rfl); (case hg => rfl); (case hr => first | (go_simp; done) | (go_simp; rfl)); (case hp => exact (Reps.one (show Kd.M (Kd.int .u8) _ _ _ (((rd x4_1 x8_2) / 16777216) % 256) [.int .u8 (((rd x4_1 x8_2) / 16777216) % 256)] from rfl) (Reps.one (show Kd.M (Kd.int .u8) _ _ _ (((rd x4_1 x8_2) / 65536) % 256) [.int .u8 (((rd x4_1 x8_2) / 65536) % 256)] from rfl) (Reps.one (show Kd.M (Kd.int .u8) _ _ _ (((rd x4_1 x8_2) / 256) % 256) [.int .u8 (((rd x4_1 x8_2) / 256) % 256)] from rfl) (Reps.one (show Kd.M (Kd.int .u8) _ _ _ ((rd x4_1 x8_2) % 256) [.int .u8 ((rd x4_1 x8_2) % 256)] from rfl) (Reps.none _ _))))))
       intro v202 w27 ho28 hb hg_ hnew_
       have HS0_ := (hb.cell (World.block_lt_of_cell? _ _ (hHeld.1))).trans (hHeld.1)
       have HS1_ := (hb.cell (World.block_lt_of_cell? _ _ (hHeld.2.1))).trans (hHeld.2.1)
       have HS2_ := (hb.cell (World.block_lt_of_cell? _ _ (hHeld.2.2.1))).trans (hHeld.2.2.1)
       have HS3_ := (hb.cell (World.block_lt_of_cell? _ _ (hHeld.2.2.2))).trans (hHeld.2.2.2)
       clear hg_ hnew_
       (first | rw [← Ny201.out] at ho28 | (simp only [Int.reduceToNat] at ho28; rw [← Ny201.out] at ho28))
       replace HO_4 := mk0 (Kd.R_below (rr HO_4.out) hb)
       have HO203 := mk0 (Kd.R_lower (Kd.R_new' ho28 (Kd.R_lt (rr HO_7.out))) bs)
       replace HO_7 := mk0 (Kd.R_elder' (rr HO_7.out) (Kd.R_base ho28) hb)
       replace HB := mk0 (below_step bw hb)
       clear hb ho28
       obtain ⟨Ao30, co30, eo30⟩ := Kd.R_slice HO203.out
       (first | subst eo30 | (injection eo30 with f1_ f2_ f3_; have f4_ := f1_.symm; have f5_ := f3_.symm; clear f1_ f2_ f3_; subst f4_; subst f5_))
       refine hK.out _ _ ⟨HS0_, HS1_, HS2_, HS3_⟩ (fun hHeld => ?_)
       clear hK K
       refine nr (some 56) ?_
       refine last_ (i := 25) (N := some 57) #[true, true, true, true, true, true, true, true, true, true, true, true, true, true, true, true, true, true, true, true, true, true, true, true, true, true, false] rfl rfl (one_of HT_.out (by kernel_rfl)) (by decide) (fun K hK => ?_)
       refine Kd.R_append_rows_step (Kd.int .u8) (w0 := w) w.heap.size (by rfl) (.tmp 32) (.tmp 56) 36 5 (.int .u8 0) 1 rfl Try.underlying36 info5 rfl (by decide) (by omega) u7 x7_2 y201 _ _ _ (fun k_ => some k_ ≠ (.slice Ao30 y201.length co30 : Value).ownBlock) (fun _ => False) rfl rfl ?aO ?aR (fun _ _ h => h) (fun _ h => h.elim) ?aF ?aB ?aS ?aL ?_
       (case aR => repeat (first | exact (Kd.R_reads' HO203.out).2.2 | (with_reducible refine Kd.C_alloc ?_ _) | (with_reducible refine Kd.C_drewN ?_ _) | (with_reducible refine Kd.C_drew ?_)))
       (case aB => exact bw)
       (case aF => exact (fun k_ hk => Kd.fresh' (Kd.R_lt (rr HO203.out)) k_ hk))
       (case aO => exact (by (with_reducible repeat (first | apply Kd.R_alloc | apply Kd.R_drewN | apply Kd.R_drew)); exact Kd.R_mono HO_7.out (fun _ hk => hk.2)))
       (case aS => exact bs)
       (case aL => have := LMc24.out; omega)
       intro v205 w29 ho hb hg hat
       rw [← Ny204.out] at ho
       replace HO_4 := mk0 (Kd.R_over' (rr HO_4.out) (Kd.R_typed (rr HO_7.out)) (by decide) hg)
       replace HO203 := mk0 (Kd.R_after (ok := (fun _ => True)) (rr HO203.out) hg hat)
       replace HB := mk0 (hb)
       have HO206 := mk0 (ho)
       clear HO_7
       clear ho hb hg hat
       refine hK.out _ _ ?_
       clear hK K
       refine nr (some 57) ?_
       refine pu 26 (some 7) HT_ ?_
       refine dn HT_ ?_
       try go_wp2
       go_roundg k2
       case measure => have := HK1.out; have := HK2.out; omega
       case rel => exact ⟨(y204), (wrap64 (x8_2 + 1)), sv, H', hk2, ⟨rr HO_4.out⟩, ⟨by (with_reducible repeat (first | apply Kd.R_alloc | apply Kd.R_drewN | apply Kd.R_drew)); exact Kd.R_mono HO206.out (fun _ hk => trivial)⟩, ⟨bw⟩⟩
     · obtain rfl := Option.some.inj H
       have hcv31 := own_string (P := Try.prog) Try.underlying36 Try.underlying5 Try.underlying9 (Kd.own_of_R HO_7.out)
       go_wp2
       go_ret
       exact ⟨sw, bw⟩
/-! ### spec_PutNum: function 64 -/
mutual
def spec_PutNum.j0 : Nat → Int → List Int → Option (List Int)
  | 0, _, _ => none
  | k + 1, x1, x5 => if x1 < 0 then (spec_PutNum.j1 k 0 x5) else (spec_PutNum.j1 k x1 x5)
def spec_PutNum.j1 : Nat → Int → List Int → Option (List Int)
  | 0, _, _ => none
  | k + 1, x1, x5 => spec_PutNum.l0 k x1 x5
def spec_PutNum.l0 : Nat → Int → List Int → Option (List Int)
  | 0, _, _ => none
  | k + 1, x1, x5 => if x1 > 127 then (if x5.length < 140737488355328 then (spec_PutNum.l0 k (x1 / 128) (x5 ++ [(Go.bits .or .i64 (Go.bits .and .i64 x1 127) 128) % 256])) else (none)) else (if x5.length < 140737488355328 then (some (x5 ++ [(x1) % 256])) else (none))
end
def spec_PutNum.f (k : Nat) (l0 : List Int) (a1 : Int) : Option (List Int) := (some (([] : List Int) : List Int)).bind fun y207 => (if y207.length + l0.length < 140737488355328 then ((some (y207 ++ l0 : List Int)).bind fun y210 => (if a1 > 1000000000 then (spec_PutNum.j0 k 1000000000 y210) else (spec_PutNum.j0 k a1 y210))) else (none))
theorem spec_PutNum.mono_l : ∀ k, (∀ y0 y1, LeO (spec_PutNum.j0 k y0 y1) (spec_PutNum.j0 (k + 1) y0 y1)) ∧ (∀ y0 y1, LeO (spec_PutNum.j1 k y0 y1) (spec_PutNum.j1 (k + 1) y0 y1)) ∧ (∀ y0 y1, LeO (spec_PutNum.l0 k y0 y1) (spec_PutNum.l0 (k + 1) y0 y1))
  | 0 => ⟨fun _ _ r h => by simp [spec_PutNum.j0] at h, fun _ _ r h => by simp [spec_PutNum.j1] at h, fun _ _ r h => by simp [spec_PutNum.l0] at h⟩
  | k + 1 => by
    obtain ⟨ih0, ih1, ih2⟩ := spec_PutNum.mono_l k
    refine ⟨?_, ?_, ?_⟩
    · intro y0 y1
      unfold spec_PutNum.j0
      exact me
    · intro y0 y1
      unfold spec_PutNum.j1
      exact me
    · intro y0 y1
      unfold spec_PutNum.l0
      exact me
theorem spec_PutNum.mono : ∀ a0 a1 k, LeO (spec_PutNum.f k a0 a1) (spec_PutNum.f (k + 1) a0 a1) := by
  intro a0 a1 k
  obtain ⟨ih0, ih1, ih2⟩ := spec_PutNum.mono_l k
  unfold spec_PutNum.f
  exact me
theorem spec_PutNum.calls (k : Nat) (A0 : Option Addr) (c0 : Nat) (l0 : List Int) (a1 : Int) (r : List Int) (w : World) (hr0 : Kd.C (Kd.int .u8) w A0 l0.length l0) (hc0 : l0.length ≤ c0) (h : spec_PutNum.f k l0 a1 = some r) :
    Calls Try.prog 64 #[.slice A0 l0.length c0, .int .i64 a1] w fun e w' => ∃ v0_ : Value, e = .returned (v0_) ∧ Kd.R (Kd.int .u8) 5 w' w.heap.size (fun _ => True) v0_ r ∧ Below w.heap.size w w' := by
 have HR0 := mk0 hr0
 have HC0 := mk0 hc0
 clear hr0 hc0
 have HB := mk0 (Below.refl w.heap.size w)
 have H : ((some (([] : List Int) : List Int)).bind fun y207 => (if y207.length + l0.length < 140737488355328 then ((some (y207 ++ l0 : List Int)).bind fun y210 => (if a1 > 1000000000 then (spec_PutNum.j0 k 1000000000 y210) else (spec_PutNum.j0 k a1 y210))) else (none))) = some r := h
 clear h
 replace H := bz H; obtain ⟨y207, Ny207, H⟩ := H
 replace H := gl H; obtain ⟨LMc3, H⟩ := H
 replace H := bz H; obtain ⟨y210, Ny210, H⟩ := H
 have HC4 := mk0 H; clear H
 go_enter Try.func64, Try.ntmps64
 go_upto_if 10 with (first | ((with_reducible refine gD 6 rfl ?_); refine lt (Kd.int .u8) 5 6 ([] : List Int) [] ?_; intro v208 w5 ho6 hb hg_ hnew_; clear hg_ hnew_; (first | rw [← Ny207.out] at ho6 | (simp only [Int.reduceToNat] at ho6; rw [← Ny207.out] at ho6)); have HO209 := mk0 (Kd.R_lower ho6 bs); replace HB := mk0 (below_step bw hb); clear hb ho6) | ((with_reducible refine gate_builtin (b := .append) (xs := #[.tmp 6, .tmp 7]) rfl ?_); at_builtin; refine Kd.R_append_rows (Kd.int .u8) (w0 := w) w.heap.size rfl (.tmp 6) (.tmp 7) 36 5 (.int .u8 0) 1 rfl Try.underlying36 info5 rfl (by decide) (by omega) v208 y207 l0 _ _ _ (fun _ => True) (fun _ => False) rfl rfl ?aO ?aR (fun _ _ h => h) (fun _ h => h.elim) ?aF ?aB ?aS ?aL ?_; (case aR => repeat (first | exact (Kd.C_below HR0.out HB.out) | (with_reducible refine Kd.C_alloc ?_ _) | (with_reducible refine Kd.C_drewN ?_ _) | (with_reducible refine Kd.C_drew ?_))); (case aB => exact bw); (case aF => exact (fun _ _ => trivial)); (case aO => exact (rr HO209.out)); (case aS => exact bs); (case aL => have := LMc3.out; omega); intro v211 w7 ho hb hg hat; rw [← Ny210.out] at ho; replace HB := mk0 (hb); have HO212 := mk0 (ho); clear HO209; clear ho hb hg hat))
 (try simp only [Act.put, List.setIfInBounds_toArray, List.set_cons_zero, List.set_cons_succ])
 go_cut [1] (fun v1 wc => ∃ (kq : Nat) (x1_3 : Int), v1 = .int .i64 x1_3 ∧ Aside0 (spec_PutNum.j0 kq x1_3 y210 = some r) ∧ Aside0 (kq ≤ k) ∧ Aside0 (Kd.R (Kd.int .u8) 5 wc w.heap.size (fun _ => True) v211 y210) ∧ Aside0 (Below w.heap.size w wc))
 case first =>
  have H := HC4.out
  clear HC4
  replace H := ip H; rcases H with ⟨c8, H⟩ | ⟨c8, H⟩
  · have c8b0 : decide (1000000000 < a1) = true := decide_eq_true c8
    clear c8
    (first | rw [c8b0] | (simp only [i64_w, i32_w]; rw [c8b0]) | skip)
    have H' := mk0 H
    clear H
    go_wp2
    go_meet
    case rel => exact ⟨_, (1000000000), sv, H', ⟨ol⟩, ⟨rr HO212.out⟩, ⟨bw⟩⟩
  · have c8b0 : decide (1000000000 < a1) = false := decide_eq_false c8
    clear c8
    (first | rw [c8b0] | (simp only [i64_w, i32_w]; rw [c8b0]) | skip)
    have H' := mk0 H
    clear H
    go_wp2
    go_meet
    case rel => exact ⟨_, (a1), sv, H', ⟨ol⟩, ⟨rr HO212.out⟩, ⟨bw⟩⟩
 case rest =>
  clear HC4
  (try clear c8); (try clear c8b0)
  obtain ⟨kq, x1_3, rfl, HA, HJ3, HO_5, HB⟩ := hcut
  rcases kq with _ | kj3
  · exact absurd HA.out (by simp [spec_PutNum.j0])
  have H := HA.out
  clear HA
  simp only [spec_PutNum.j0] at H
  have HC9 := mk0 H; clear H
  go_upto_if 12 with (fail)
  go_cut [1] (fun v1 wc => ∃ (kq : Nat) (x1_8 : Int), v1 = .int .i64 x1_8 ∧ Aside0 (spec_PutNum.j1 kq x1_8 y210 = some r) ∧ Aside0 (kq ≤ kj3) ∧ Aside0 (Kd.R (Kd.int .u8) 5 wc w.heap.size (fun _ => True) v211 y210) ∧ Aside0 (Below w.heap.size w wc))
  case first =>
   have H := HC9.out
   clear HC9
   replace H := idd H; rcases H with ⟨c10b0, H⟩ | ⟨c10b0, H⟩
   · (first | rw [c10b0] | (simp only [i64_w, i32_w]; rw [c10b0]) | skip)
     have H' := mk0 H
     clear H
     go_wp2
     go_meet
     case rel => exact ⟨_, (0), sv, H', ⟨by have := HJ3.out; first | omega | exact Nat.le_refl _⟩, ⟨rr HO_5.out⟩, ⟨bw⟩⟩
   · (first | rw [c10b0] | (simp only [i64_w, i32_w]; rw [c10b0]) | skip)
     have H' := mk0 H
     clear H
     go_wp2
     go_meet
     case rel => exact ⟨_, (x1_3), sv, H', ⟨by have := HJ3.out; first | omega | exact Nat.le_refl _⟩, ⟨rr HO_5.out⟩, ⟨bw⟩⟩
  case rest =>
   clear HC9
   (try clear c8); (try clear c8b0); (try clear c10b0)
   obtain ⟨kq, x1_8, rfl, HA, HJ8, HO_5, HB⟩ := hcut
   rcases kq with _ | kj8
   · exact absurd HA.out (by simp [spec_PutNum.j1])
   have H := HA.out
   clear HA
   simp only [spec_PutNum.j1] at H
   have H' := mk0 H
   clear H
   go_wp2
   go_loopg [1, 5] kj8 (fun kq v1 v5 w' => ∃ (x1_3 : Int) (x5_3 : List Int), v1 = .int .i64 x1_3 ∧ Aside0 (spec_PutNum.l0 kq x1_3 x5_3 = some r) ∧ Aside0 (kq ≤ kj8) ∧ Aside0 (Kd.R (Kd.int .u8) 5 w' w.heap.size (fun _ => True) v5 x5_3) ∧ Aside0 (Below w.heap.size w w'))
   case atStart => exact ⟨(x1_8), (y210), sv, H', nl, ⟨rr HO_5.out⟩, ⟨bw⟩⟩
   case round =>
    clear H'
    (try clear c8); (try clear c8b0); (try clear c10b0)
    obtain ⟨x1_3, x5_3, rfl, HA, HK3, HO_5, HB⟩ := hrel
    rcases gk with _ | k3
    · exact absurd HA.out (by simp [spec_PutNum.l0])
    have H := HA.out
    clear HA
    simp only [spec_PutNum.l0] at H
    replace H := ip H; rcases H with ⟨c11, H⟩ | ⟨c11, H⟩
    · have c11b0 : decide (127 < x1_3) = true := decide_eq_true c11
      clear c11
      replace H := gl H; obtain ⟨LMc12, H⟩ := H
      obtain ⟨y213, Ny213⟩ := nm (x5_3 ++ [(Go.bits .or .i64 (Go.bits .and .i64 x1_3 127) 128) % 256])
      rw [← Ny213.out] at H
      have H' := mk0 H
      clear H
      go_wp2_with (first | ((with_reducible refine gB' .append #[.tmp 15, .tmp 20] rfl ?_); at_builtin; refine ap (Kd.int .u8) (.tmp 15) (.tmp 20) 36 5 (.int .u8 0) 1 Try.underlying36 info5 u5 x5_3 ((Go.bits .or .i64 (Go.bits .and .i64 x1_3 127) 128) % 256) [.int .u8 ((Go.bits .or .i64 (Go.bits .and .i64 x1_3 127) 128) % 256)] (rr HO_5.out) bw (la LMc12) ?_; intro v214 w13 ho hb hg hat; rw [← Ny213.out] at ho; replace HB := mk0 (hb); have HO215 := mk0 (ho); clear HO_5; clear ho hb hg hat))
      go_roundg k3
      case measure => have := HJ3.out; have := HJ8.out; have := HK3.out; omega
      case rel => exact ⟨(x1_3 / 128), (y213), sv, H', ⟨by have := HJ3.out; have := HJ8.out; have := HK3.out; omega⟩, ⟨rr HO215.out⟩, ⟨bw⟩⟩
    · have c11b0 : decide (127 < x1_3) = false := decide_eq_false c11
      clear c11
      replace H := gl H; obtain ⟨LMc14, H⟩ := H
      obtain ⟨y216, Ny216⟩ := nm (x5_3 ++ [(x1_3) % 256])
      rw [← Ny216.out] at H
      obtain rfl := Option.some.inj H
      go_wp2_with (first | ((with_reducible refine gB' .append #[.tmp 24, .tmp 27] rfl ?_); at_builtin; refine ap (Kd.int .u8) (.tmp 24) (.tmp 27) 36 5 (.int .u8 0) 1 Try.underlying36 info5 u5 x5_3 ((x1_3) % 256) [.int .u8 ((x1_3) % 256)] (rr HO_5.out) bw (la LMc14) ?_; intro v217 w15 ho hb hg hat; rw [← Ny216.out] at ho; replace HB := mk0 (hb); have HO218 := mk0 (ho); clear HO_5; clear ho hb hg hat))
      go_ret
      exact ⟨_, sw, rr HO218.out, bw⟩
/-! ### spec_PutText: function 63 -/
def spec_PutText.f (k : Nat) (l0 : List Int) (a1 : ByteArray) : Option (List Int) := (spec_PutNum.f k l0 (a1.size : Int)).bind fun t219 => (if t219.length + a1.size < 140737488355328 then (some (t219 ++ bytesOf a1)) else (none))
theorem spec_PutText.mono : ∀ a0 a1 k, LeO (spec_PutText.f k a0 a1) (spec_PutText.f (k + 1) a0 a1) := by
  intro a0 a1 k
  unfold spec_PutText.f
  have m0 := @spec_PutNum.mono
  exact me
theorem spec_PutText.calls (k : Nat) (A0 : Option Addr) (c0 : Nat) (l0 : List Int) (a1 : ByteArray) (r : List Int) (w : World) (hr0 : Kd.C (Kd.int .u8) w A0 l0.length l0) (hc0 : l0.length ≤ c0) (h : spec_PutText.f k l0 a1 = some r) :
    Calls Try.prog 63 #[.slice A0 l0.length c0, .string a1] w fun e w' => ∃ v0_ : Value, e = .returned (v0_) ∧ Kd.R (Kd.int .u8) 5 w' w.heap.size (fun _ => True) v0_ r ∧ Below w.heap.size w w' := by
 have HR0 := mk0 hr0
 have HC0 := mk0 hc0
 clear hr0 hc0
 have HB := mk0 (Below.refl w.heap.size w)
 have H : ((spec_PutNum.f k l0 (a1.size : Int)).bind fun t219 => (if t219.length + a1.size < 140737488355328 then (some (t219 ++ bytesOf a1)) else (none))) = some r := h
 clear h
 replace H := bd H; obtain ⟨t219, A3, H⟩ := H
 replace H := gl H; obtain ⟨LMc4, H⟩ := H
 obtain ⟨y222, Ny222⟩ := nm (t219 ++ bytesOf a1)
 rw [← Ny222.out] at H
 obtain rfl := Option.some.inj H
 go_enter Try.func63, Try.ntmps63
 go_wp2_with (first | ((with_reducible refine gC 64 (some 8) rfl rfl ?_); refine gR (some 8) Try.func64 #[.slice A0 l0.length c0, .int .i64 (a1.size : Int)] (spec_PutNum.calls k _ _ l0 (a1.size : Int) t219 _ (cc HR0.out) HC0.out A3.out) ?_; intro v220 w5 ho0 hb; have HO221 := mk0 (Kd.R_lower ho0 bs); replace HB := mk0 (below_step bw hb); clear hb ho0) | (at_builtin; refine Go.Proofs.Ytlekeiokdmnboaa.ApStr.append_str_at (w0 := w) w.heap.size rfl (.tmp 8) _ 36 9 5 rfl Try.underlying36 Try.underlying9 info5 v220 t219 a1 (fun _ => True) rfl rfl ?aO ?aB ?aF ?aS ?aL ?_; (case aB => exact bw); (case aF => exact (fun _ _ => trivial)); (case aO => exact (rr HO221.out)); (case aS => exact bs); (case aL => have := LMc4.out; omega); intro v223 w6 ho hb hg hat; rw [← Ny222.out] at ho; change Kd.R (Kd.int .u8) 5 w6 w.heap.size (fun _ => True) v223 y222 at ho; replace HB := mk0 (hb); have HO224 := mk0 (ho); clear HO221; clear ho hb hg hat))
 go_ret
 exact ⟨_, sw, rr HO224.out, bw⟩
-- NOT PRINTED: function 65 (impl_rounds)

-- NOT PRINTED: function 66 (slices_Chunk_byte_byte)

end Go.Proofs.Ytlekeiokdmnboaa.Pa
end

section
namespace Go.Proofs.Ytlekeiokdmnboaa.Pa
open Go.RowKit Go.Proofs.YtlekeiokdmnboaaW.PrintWords Go.Proofs.YtlekeiokdmnboaaW.PrintLast Go.Proofs.YtlekeiokdmnboaaW.PrintMore Go.Proofs.Ytlekeiokdmnboaa.M
attribute [local go_sem] max2_int min2_int max_two min_two max_three min_three max_four min_four   -- for this text's walks alone
set_option linter.unusedVariables false
set_option maxHeartbeats 8000000
set_option maxRecDepth 100000
set_option linter.unusedSimpArgs false

/-! ### impl_putNum: function 40 -/
def impl_putNum.l0 : Nat → List Int → Int → Option (List Int)
  | 0, _, _ => none
  | k + 1, x0, x1 => if x1 > 127 then (if x0.length < 140737488355328 then (impl_putNum.l0 k (x0 ++ [(Go.bits .or .i64 128 (Go.bits .and .i64 x1 127)) % 256]) (x1 / 128)) else (none)) else (if x0.length < 140737488355328 then (some (x0 ++ [(x1) % 256])) else (none))
def impl_putNum.f (k : Nat) (l0 : List Int) (a1 : Int) : Option (List Int) := impl_putNum.l0 k l0 (mx 0 (mn a1 1000000000))
theorem impl_putNum.mono_l : ∀ k, (∀ y0 y1, LeO (impl_putNum.l0 k y0 y1) (impl_putNum.l0 (k + 1) y0 y1))
  | 0 => fun _ _ r h => by simp [impl_putNum.l0] at h
  | k + 1 => by
    have ih0 := impl_putNum.mono_l k
    · intro y0 y1
      unfold impl_putNum.l0
      exact me
theorem impl_putNum.mono : ∀ a0 a1 k, LeO (impl_putNum.f k a0 a1) (impl_putNum.f (k + 1) a0 a1) := by
  intro a0 a1 k
  have ih0 := impl_putNum.mono_l k
  unfold impl_putNum.f
  exact me
theorem impl_putNum.calls (k : Nat) (P0_ : Nat → Prop) (u9000_ : Value) (l0 : List Int) (a1 : Int) (r : List Int) (w0 w : World) (hB : Below w0.heap.size w0 w) (ho0 : Kd.R (Kd.int .u8) 5 w w0.heap.size P0_ u9000_ l0) (h : impl_putNum.f k l0 a1 = some r) :
    Calls Try.prog 40 #[u9000_, .int .i64 a1] w fun e w' => ∃ v0_ : Value, e = .returned (v0_) ∧ Kd.R (Kd.int .u8) 5 w' w0.heap.size (fun k_ => (P0_ k_ ∨ w.heap.size ≤ k_)) v0_ r ∧ Below w0.heap.size w0 w' ∧ Kept w w' (fun k_ => P0_ k_) := by
 have HO0 := mk0 (show Kd.R (Kd.int .u8) 5 w w0.heap.size (fun k_ => (P0_ k_ ∨ w.heap.size ≤ k_)) u9000_ l0 from Kd.R_mono ho0 (fun k_ hk => (.inl hk)))
 have HK := mk0 (Kept.refl w (fun k_ => P0_ k_))
 have HW0 := mk0 hB.size
 have HB := mk0 hB
 clear hB
 have H : (impl_putNum.l0 k l0 (mx 0 (mn a1 1000000000))) = some r := h
 clear h
 obtain ⟨ji3, hji3⟩ : ∃ j_ : Int, (mn a1 1000000000) = j_ := ⟨_, rfl⟩
 replace H : (impl_putNum.l0 k l0 (mx 0 (ji3))) = some r := by first | (rw [hji3] at H; exact H) | (simp only [hji3] at H ⊢; exact H)
 (try (have hji3h : ji3 ≤ 1000000000 := by (rw [← hji3]; unfold mn; (repeat' split) <;> omega)))
 (try (have hji3g : ji3 ≤ 64 := by omega))
 have hji3_ : (if 1000000000 < a1 then 1000000000 else a1) = ji3 := hji3
 obtain ⟨ji4, hji4⟩ : ∃ j_ : Int, (mx 0 (ji3)) = j_ := ⟨_, rfl⟩
 replace H : (impl_putNum.l0 k l0 ji4) = some r := by first | (rw [hji4] at H; exact H) | (simp only [hji4] at H ⊢; exact H)
 have hji4_ : (if 0 < (ji3) then (ji3) else 0) = ji4 := hji4
 have H' := mk0 H
 clear H
 go_enter Try.func40, Try.ntmps40
 go_wp2
 go_loopg [0, 1] k (fun kq v0 v1 w' => ∃ (x0_1 : List Int) (x1_1 : Int), v1 = .int .i64 x1_1 ∧ Aside0 (impl_putNum.l0 kq x0_1 x1_1 = some r) ∧ Aside0 (kq ≤ k) ∧ Aside0 (Kd.R (Kd.int .u8) 5 w' w0.heap.size (fun k_ => (P0_ k_ ∨ w.heap.size ≤ k_)) v0 x0_1) ∧ Aside0 (Kept w w' (fun k_ => P0_ k_)) ∧ Aside0 (Below w0.heap.size w0 w'))
 case atStart => exact ⟨(l0), (ji4), (by first | rfl | (simp; done) | (simp only [← hji4] <;> (first | rfl | simp)) | (simp [*]; done)), H', nl, ⟨rr HO0.out⟩, ⟨kw⟩, ⟨bw⟩⟩
 case round =>
  clear H'
  obtain ⟨x0_1, x1_1, rfl, HA, HK1, HO_0, HK, HB⟩ := hrel
  rcases gk with _ | k1
  · exact absurd HA.out (by simp [impl_putNum.l0])
  have H := HA.out
  clear HA
  simp only [impl_putNum.l0] at H
  replace H := ip H; rcases H with ⟨c5, H⟩ | ⟨c5, H⟩
  · have c5b0 : decide (127 < x1_1) = true := decide_eq_true c5
    clear c5
    replace H := gl H; obtain ⟨LMc6, H⟩ := H
    obtain ⟨y265, Ny265⟩ := nm (x0_1 ++ [(Go.bits .or .i64 128 (Go.bits .and .i64 x1_1 127)) % 256])
    rw [← Ny265.out] at H
    have H' := mk0 H
    clear H
    go_wp2_with (first | ((with_reducible refine gate_builtin (b := .append) (xs := #[.tmp 10, .tmp 15]) rfl ?_); at_builtin; refine Kd.R_append (Kd.int .u8) (w0 := w0) w0.heap.size rfl (.tmp 10) (.tmp 15) 36 5 (.int .u8 0) 1 rfl Try.underlying36 info5 rfl (by decide) (by omega) u0 x0_1 ((Go.bits .or .i64 128 (Go.bits .and .i64 x1_1 127)) % 256) [.int .u8 ((Go.bits .or .i64 128 (Go.bits .and .i64 x1_1 127)) % 256)] (fun k_ => (P0_ k_ ∨ w.heap.size ≤ k_)) (fun _ => False) rfl rfl ?aP (fun _ hk => hk.elim) ?aF ?aO ?aB ?aS ?aL ?_; (case aP => exact rfl); (case aB => exact bw); (case aF => exact (fun k_ hk => (.inr (Nat.le_trans (by first | exact HK.out.1 | exact (show Kept w _ (fun k_ => P0_ k_) from kw).1) hk)))); (case aO => exact (rr HO_0.out)); (case aS => exact bs); (case aL => have := LMc6.out; omega); intro v266 w7 ho hb hg hat; rw [← Ny265.out] at ho; replace HB := mk0 (hb); replace HK := mk0 (Kept.of_grown (S := (fun k_ => P0_ k_)) hg kw (fun k_ e_ => (HO_0.out.1 k_ e_))); have HO267 := mk0 (ho); clear HO_0; clear ho hb hg hat))
    go_roundg k1
    case measure => have := HK1.out; omega
    case rel => exact ⟨(y265), (x1_1 / 128), sv, H', hk1, ⟨rr HO267.out⟩, ⟨kw⟩, ⟨bw⟩⟩
  · have c5b0 : decide (127 < x1_1) = false := decide_eq_false c5
    clear c5
    replace H := gl H; obtain ⟨LMc8, H⟩ := H
    obtain ⟨y268, Ny268⟩ := nm (x0_1 ++ [(x1_1) % 256])
    rw [← Ny268.out] at H
    obtain rfl := Option.some.inj H
    go_wp2_with (first | ((with_reducible refine gate_builtin (b := .append) (xs := #[.tmp 19, .tmp 22]) rfl ?_); at_builtin; refine Kd.R_append (Kd.int .u8) (w0 := w0) w0.heap.size rfl (.tmp 19) (.tmp 22) 36 5 (.int .u8 0) 1 rfl Try.underlying36 info5 rfl (by decide) (by omega) u0 x0_1 ((x1_1) % 256) [.int .u8 ((x1_1) % 256)] (fun k_ => (P0_ k_ ∨ w.heap.size ≤ k_)) (fun _ => False) rfl rfl ?aP (fun _ hk => hk.elim) ?aF ?aO ?aB ?aS ?aL ?_; (case aP => exact rfl); (case aB => exact bw); (case aF => exact (fun k_ hk => (.inr (Nat.le_trans (by first | exact HK.out.1 | exact (show Kept w _ (fun k_ => P0_ k_) from kw).1) hk)))); (case aO => exact (rr HO_0.out)); (case aS => exact bs); (case aL => have := LMc8.out; omega); intro v269 w9 ho hb hg hat; rw [← Ny268.out] at ho; replace HB := mk0 (hb); replace HK := mk0 (Kept.of_grown (S := (fun k_ => P0_ k_)) hg kw (fun k_ e_ => (HO_0.out.1 k_ e_))); have HO270 := mk0 (ho); clear HO_0; clear ho hb hg hat))
    go_ret
    exact ⟨_, by first | rfl | (simp [errW_none, errW_some] <;> rfl) | (simp only [← hji3, ← hji4]; first | rfl | (simp [errW_none, errW_some] <;> rfl)) | (simp [*, errW_none, errW_some] <;> rfl), rr HO270.out, bw, kw⟩
/-! ### impl_putText: function 39 -/
def impl_putText.f (k : Nat) (l0 : List Int) (a1 : ByteArray) : Option (List Int) := (impl_putNum.f k l0 (a1.size : Int)).bind fun t271 => (if t271.length + a1.size < 140737488355328 then (some (t271 ++ bytesOf a1)) else (none))
theorem impl_putText.mono : ∀ a0 a1 k, LeO (impl_putText.f k a0 a1) (impl_putText.f (k + 1) a0 a1) := by
  intro a0 a1 k
  unfold impl_putText.f
  have m0 := @impl_putNum.mono
  exact me
theorem impl_putText.calls (k : Nat) (P0_ : Nat → Prop) (u9000_ : Value) (l0 : List Int) (a1 : ByteArray) (r : List Int) (w0 w : World) (hB : Below w0.heap.size w0 w) (ho0 : Kd.R (Kd.int .u8) 5 w w0.heap.size P0_ u9000_ l0) (h : impl_putText.f k l0 a1 = some r) :
    Calls Try.prog 39 #[u9000_, .string a1] w fun e w' => ∃ v0_ : Value, e = .returned (v0_) ∧ Kd.R (Kd.int .u8) 5 w' w0.heap.size (fun k_ => (P0_ k_ ∨ w.heap.size ≤ k_)) v0_ r ∧ Below w0.heap.size w0 w' ∧ Kept w w' (fun k_ => P0_ k_) := by
 have HO0 := mk0 (show Kd.R (Kd.int .u8) 5 w w0.heap.size (fun k_ => (P0_ k_ ∨ w.heap.size ≤ k_)) u9000_ l0 from Kd.R_mono ho0 (fun k_ hk => (.inl hk)))
 have HK := mk0 (Kept.refl w (fun k_ => P0_ k_))
 have HW0 := mk0 hB.size
 have HB := mk0 hB
 clear hB
 have H : ((impl_putNum.f k l0 (a1.size : Int)).bind fun t271 => (if t271.length + a1.size < 140737488355328 then (some (t271 ++ bytesOf a1)) else (none))) = some r := h
 clear h
 replace H := bd H; obtain ⟨t271, A3, H⟩ := H
 replace H := gl H; obtain ⟨LMc4, H⟩ := H
 obtain ⟨y274, Ny274⟩ := nm (t271 ++ bytesOf a1)
 rw [← Ny274.out] at H
 obtain rfl := Option.some.inj H
 obtain ⟨Ao5, co5, eo5⟩ := Kd.R_slice HO0.out
 subst eo5
 go_enter Try.func39, Try.ntmps39
 go_wp2_with (first | ((with_reducible refine gC 40 (some 8) rfl rfl ?_); refine gK (some 8) Try.func40 #[.slice Ao5 l0.length co5, .int .i64 (a1.size : Int)] (impl_putNum.calls k (fun k_ => some k_ = (.slice Ao5 l0.length co5 : Value).ownBlock) (.slice Ao5 l0.length co5) l0 (a1.size : Int) t271 w0 _ bw (Kd.R_tight rfl HO0.out) A3.out) ?_; intro v272 w6 ho0 hb hkp; have HO273 := mk0 (Kd.R_mono (ok' := fun k_ => (P0_ k_ ∨ w.heap.size ≤ k_)) ho0 (fun k_ hk_ => Or.elim hk_ (fun hs_ => (HO0.out.1 k_ (hs_).symm)) (fun hn_ => (.inr (Nat.le_trans (by first | exact HK.out.1 | exact (show Kept w _ (fun k_ => P0_ k_) from kw).1) hn_))))); replace HK := mk0 (Kept.then_ (S := (fun k_ => P0_ k_)) kw hkp (fun k_ hs_ => (fun e_ => (HO0.out.1 k_ e_.symm)) hs_)); replace HB := mk0 (hb); clear HO0; clear hb hkp ho0) | (at_builtin; refine Go.Proofs.Ytlekeiokdmnboaa.ApStr.append_str_at (w0 := w0) w0.heap.size rfl (.tmp 8) _ 36 9 5 rfl Try.underlying36 Try.underlying9 info5 v272 t271 a1 (fun k_ => (P0_ k_ ∨ w.heap.size ≤ k_)) rfl rfl ?aO ?aB ?aF ?aS ?aL ?_; (case aB => exact bw); (case aF => exact (fun k_ hk => (.inr (Nat.le_trans (by first | exact HK.out.1 | exact (show Kept w _ (fun k_ => P0_ k_) from kw).1) hk)))); (case aO => exact (rr HO273.out)); (case aS => exact bs); (case aL => have := LMc4.out; omega); intro v275 w7 ho hb hg hat; rw [← Ny274.out] at ho; change Kd.R (Kd.int .u8) 5 w7 w0.heap.size (fun k_ => (P0_ k_ ∨ w.heap.size ≤ k_)) v275 y274 at ho; replace HB := mk0 (hb); replace HK := mk0 (Kept.of_grown (S := (fun k_ => P0_ k_)) hg kw (fun k_ e_ => (HO273.out.1 k_ e_))); have HO276 := mk0 (ho); clear HO273; clear ho hb hg hat))
 go_ret
 exact ⟨_, sw, rr HO276.out, bw, kw⟩
end Go.Proofs.Ytlekeiokdmnboaa.Pa
end

section
/- slices.Clone of bytes gives a list of its own that holds the same bytes. -/
-- FOREIGN slices.Clone[[]byte,byte] making=1 rounds=0
namespace Go.Proofs.Ytlekeiokdmnboaa.Pa
open Go.RowKit Go.Proofs.YtlekeiokdmnboaaW.PrintWords Go.Proofs.YtlekeiokdmnboaaW.PrintLast Go.Proofs.YtlekeiokdmnboaaW.PrintMore
attribute [local go_sem] max2_int min2_int max_two min_two max_three min_three max_four min_four   -- for this text's walks alone
def slices_Clone_byte_byte.f (l0 : List Int) : Option (List Int) := if l0.length < 140737488355328 then some l0 else none
theorem slices_Clone_byte_byte.info : (Try.prog.info? 5).map (fun i => (i.zero, i.size, i.bytes)) = some (some (.int .u8 0), 1, 1) := by kernel_rfl
set_option maxHeartbeats 1000000 in
set_option maxRecDepth 100000 in
theorem slices_Clone_byte_byte.calls (A0 : Option Addr) (c0 : Nat) (l0 : List Int) (r : List Int) (w : World) (hr0 : Kd.C (Kd.int .u8) w A0 l0.length l0) (hc0 : l0.length ≤ c0) (h : slices_Clone_byte_byte.f l0 = some r) :
    Calls Try.prog 89 #[.slice A0 l0.length c0] w fun e w' => ∃ v0_ : Value, e = .returned (v0_) ∧ Kd.R (Kd.int .u8) 5 w' w.heap.size (fun _ => True) v0_ r ∧ Below w.heap.size w w' := by
  unfold slices_Clone_byte_byte.f at h
  by_cases hl : l0.length < 140737488355328
  · rw [if_pos hl] at h
    obtain rfl := Option.some.inj h
    have HR0 := Aside0.mk hr0
    have HC0 := Aside0.mk hc0
    have HL := Aside0.mk hl
    have HB := Aside0.mk (Below.refl w.heap.size w)
    have heq := fun W : World => Lib.run_eql_slice_nil (P := Try.prog) W 36 5 A0 l0.length c0 0 0 Try.underlying36
    clear h hl hc0
    rcases A0 with _ | ad
    · have hn : l0 = [] := by
        rcases Nat.eq_zero_or_pos l0.length with h0 | h0
        · exact List.eq_nil_of_length_eq_zero h0
        · obtain ⟨ad, e, _⟩ := hr0.2.2 h0
          cases e
      clear hr0
      have HN := Aside0.mk hn
      clear hn
      go_enter Try.func89, Try.ntmps89
      go_wp2
      go_ret
      exact ⟨_, rfl, by rw [HN.out]; exact Kd.R_nil _ _ _ _ _, Below.refl _ _⟩
    · clear hr0
      go_enter Try.func89, Try.ntmps89
      go_wp2_with (first | ((with_reducible refine gate_dst (N := 5) rfl ?_); refine Kd.R_lit (Kd.int .u8) _ 5 ?hg (N := 5) ?hd (xs := ([] : List Int)) (inner := []) (ok := fun _ => True) (okp := fun _ => True) ?hr ?hp (fun _ hk => hk) trivial (Below.refl _ _) (Nat.le_refl _) (by simp) ?_; (case hd => rfl); (case hg => rfl); (case hr => first | (go_simp; done) | (go_simp; rfl)); (case hp => exact (Reps.none _ _)); intro v208 w5 ho6 hb hg_ hnew_; clear hg_ hnew_; have HO209 := Aside0.mk (Kd.R_lower ho6 (below_size HB.out)); have n1_ := Aside0.mk (below_step HB.out hb); clear HB; have HB := n1_; clear n1_; clear hb ho6) | ((with_reducible refine gate_builtin (b := .append) (xs := #[.tmp 5, .tmp 6]) rfl ?_); at_builtin; refine Kd.R_append_rows (Kd.int .u8) (w0 := w) w.heap.size rfl (.tmp 5) (.tmp 6) 36 5 (.int .u8 0) 1 rfl Try.underlying36 slices_Clone_byte_byte.info rfl (by decide) (by omega) v208 [] l0 _ _ _ (fun _ => True) (fun _ => False) rfl rfl ?aO ?aR (fun _ _ h => h) (fun _ h => h.elim) ?aF ?aB ?aS ?aL ?_; (case aR => exact Kd.C_below HR0.out HB.out); (case aB => exact HB.out); (case aF => exact (fun _ _ => trivial)); (case aO => exact HO209.out); (case aS => exact (below_size HB.out)); (case aL => have := HL.out; simp only [List.length_nil]; omega); intro v211 w7 ho hb hg hat; have HO := Aside0.mk ho; have HB2 := Aside0.mk hb; clear ho hb hg hat))
      go_ret
      exact ⟨_, rfl, by simpa using HO.out, HB2.out⟩
  · rw [if_neg hl] at h
    exact absurd h (by simp)
end Go.Proofs.Ytlekeiokdmnboaa.Pa
end

section
namespace Go.Proofs.Ytlekeiokdmnboaa.Pa
open Go.RowKit Go.Proofs.YtlekeiokdmnboaaW.PrintWords Go.Proofs.YtlekeiokdmnboaaW.PrintLast Go.Proofs.YtlekeiokdmnboaaW.PrintMore Go.Proofs.Ytlekeiokdmnboaa.M
attribute [local go_sem] max2_int min2_int max_two min_two max_three min_three max_four min_four   -- for this text's walks alone
set_option linter.unusedVariables false
set_option maxHeartbeats 8000000
set_option maxRecDepth 100000
set_option linter.unusedSimpArgs false

/-! ### impl_Padded: function 67 -/
mutual
def impl_Padded.l0 : Nat → List Int → List Int → Option (List Int)
  | 0, _, _ => none
  | k + 1, x0, x3 => if (Int.tmod (wrap64 ((x3.length : Int) + 8)) 64) = 0 then (impl_Padded.l1 k x3 (wrap64 (8 * (x0.length : Int))) 7) else (if x3.length < 140737488355328 then (impl_Padded.l0 k x0 (x3 ++ [0])) else (none))
def impl_Padded.l1 : Nat → List Int → Int → Int → Option (List Int)
  | 0, _, _, _ => none
  | k + 1, x3, x4, x5 => if x5 ≥ 0 then (if 0 ≤ (IntKind.u64.wrap (wrap64 (8 * x5))) then (if x3.length < 140737488355328 then (impl_Padded.l1 k (x3 ++ [(shr .i64 x4 (IntKind.u64.wrap (wrap64 (8 * x5)))) % 256]) x4 (wrap64 (x5 - 1))) else (none)) else (none)) else (some x3)
end
def impl_Padded.f (k : Nat) (l0 : List Int) : Option (List Int) := (slices_Clone_byte_byte.f l0).bind fun t253 => (if t253.length < 140737488355328 then (impl_Padded.l0 k l0 (t253 ++ [128])) else (none))
theorem impl_Padded.mono_l : ∀ k, (∀ y0 y1, LeO (impl_Padded.l0 k y0 y1) (impl_Padded.l0 (k + 1) y0 y1)) ∧ (∀ y0 y1 y2, LeO (impl_Padded.l1 k y0 y1 y2) (impl_Padded.l1 (k + 1) y0 y1 y2))
  | 0 => ⟨fun _ _ r h => by simp [impl_Padded.l0] at h, fun _ _ _ r h => by simp [impl_Padded.l1] at h⟩
  | k + 1 => by
    obtain ⟨ih0, ih1⟩ := impl_Padded.mono_l k
    refine ⟨?_, ?_⟩
    · intro y0 y1
      unfold impl_Padded.l0
      exact me
    · intro y0 y1 y2
      unfold impl_Padded.l1
      exact me
theorem impl_Padded.mono : ∀ a0 k, LeO (impl_Padded.f k a0) (impl_Padded.f (k + 1) a0) := by
  intro a0 k
  obtain ⟨ih0, ih1⟩ := impl_Padded.mono_l k
  unfold impl_Padded.f
  exact me
theorem impl_Padded.calls (k : Nat) (A0 : Option Addr) (c0 : Nat) (l0 : List Int) (r : List Int) (w : World) (hr0 : Kd.C (Kd.int .u8) w A0 l0.length l0) (hc0 : l0.length ≤ c0) (h : impl_Padded.f k l0 = some r) :
    Calls Try.prog 67 #[.slice A0 l0.length c0] w fun e w' => ∃ v0_ : Value, e = .returned (v0_) ∧ Kd.R (Kd.int .u8) 5 w' w.heap.size (fun _ => True) v0_ r ∧ Below w.heap.size w w' := by
 have HR0 := mk0 hr0
 have HC0 := mk0 hc0
 clear hr0 hc0
 have HB := mk0 (Below.refl w.heap.size w)
 have H : ((slices_Clone_byte_byte.f l0).bind fun t253 => (if t253.length < 140737488355328 then (impl_Padded.l0 k l0 (t253 ++ [128])) else (none))) = some r := h
 clear h
 replace H := bd H; obtain ⟨t253, A2, H⟩ := H
 replace H := gl H; obtain ⟨LMc3, H⟩ := H
 obtain ⟨y256, Ny256⟩ := nm (t253 ++ [128])
 rw [← Ny256.out] at H
 have H' := mk0 H
 clear H
 go_enter Try.func67, Try.ntmps67
 go_wp2_with (first | ((with_reducible refine gC 89 (some 7) rfl rfl ?_); refine gR (some 7) Try.func89 #[.slice A0 l0.length c0] (slices_Clone_byte_byte.calls _ _ l0 t253 _ (cc HR0.out) HC0.out A2.out) ?_; intro v254 w4 ho0 hb; have HO255 := mk0 (Kd.R_lower ho0 bs); replace HB := mk0 (below_step bw hb); clear hb ho0) | ((with_reducible refine gB' .append #[.tmp 7, .tmp 8] rfl ?_); at_builtin; refine ap (Kd.int .u8) (.tmp 7) (.tmp 8) 36 5 (.int .u8 0) 1 Try.underlying36 info5 v254 t253 128 [.int .u8 128] (rr HO255.out) bw (la LMc3) ?_; intro v257 w5 ho hb hg hat; rw [← Ny256.out] at ho; replace HB := mk0 (hb); have HO258 := mk0 (ho); clear HO255; clear ho hb hg hat))
 go_loopg [3] k (fun kq v3 w' => ∃ (x3_1 : List Int), Aside0 (impl_Padded.l0 kq l0 x3_1 = some r) ∧ Aside0 (kq ≤ k) ∧ Aside0 (Kd.R (Kd.int .u8) 5 w' w.heap.size (fun _ => True) v3 x3_1) ∧ Aside0 (Below w.heap.size w w'))
 case atStart => exact ⟨(y256), H', nl, ⟨rr HO258.out⟩, ⟨bw⟩⟩
 case round =>
  clear H'
  obtain ⟨x3_1, HA, HK1, HO_3, HB⟩ := hrel
  rcases gk with _ | k1
  · exact absurd HA.out (by simp [impl_Padded.l0])
  have H := HA.out
  clear HA
  simp only [impl_Padded.l0] at H
  replace H := iq H; rcases H with ⟨c6b0, c6b1, H⟩ | ⟨c6, c6b0, c6b1, H⟩
  · have H' := mk0 H
    clear H
    obtain ⟨Ao7, co7, eo7⟩ := Kd.R_slice HO_3.out
    subst eo7
    go_wp2
    go_loopg [3, 5] k1 (fun kq v3 v5 w' => ∃ (x3_2 : List Int) (x5_2 : Int), v5 = .int .i64 x5_2 ∧ Aside0 (impl_Padded.l1 kq x3_2 (wrap64 (8 * (l0.length : Int))) x5_2 = some r) ∧ Aside0 (kq ≤ k1) ∧ Aside0 (Kd.R (Kd.int .u8) 5 w' w.heap.size (fun _ => True) v3 x3_2) ∧ Aside0 (Below w.heap.size w w'))
    case atStart => exact ⟨(x3_1), (7), sv, H', nl, ⟨rr HO_3.out⟩, ⟨bw⟩⟩
    case round =>
     clear H'
     (try clear c6); (try clear c6b0); (try clear c6b1)
     obtain ⟨x3_2, x5_2, rfl, HA, HK2, HO_3, HB⟩ := hrel
     rcases gk with _ | k2
     · exact absurd HA.out (by simp [impl_Padded.l1])
     have H := HA.out
     clear HA
     simp only [impl_Padded.l1] at H
     replace H := ip H; rcases H with ⟨c8, H⟩ | ⟨c8, H⟩
     · have c8b0 : decide (0 ≤ x5_2) = true := decide_eq_true c8
       clear c8
       obtain ⟨ji9, hji9⟩ : ∃ j_ : Int, (IntKind.u64.wrap (wrap64 (8 * x5_2))) = j_ := ⟨_, rfl⟩
       replace H : (if 0 ≤ (ji9) then (if x3_2.length < 140737488355328 then (impl_Padded.l1 k2 (x3_2 ++ [(shr .i64 (wrap64 (8 * (l0.length : Int))) (ji9)) % 256]) (wrap64 (8 * (l0.length : Int))) (wrap64 (x5_2 - 1))) else (none)) else (none)) = some r := by first | (rw [hji9] at H; exact H) | (simp only [hji9] at H ⊢; exact H)
       replace H := ge H; obtain ⟨c10b0, c10b1, H⟩ := H
       obtain ⟨ji11, hji11⟩ : ∃ j_ : Int, (shr .i64 (wrap64 (8 * (l0.length : Int))) (ji9)) = j_ := ⟨_, rfl⟩
       replace H : (if x3_2.length < 140737488355328 then (impl_Padded.l1 k2 (x3_2 ++ [(ji11) % 256]) (wrap64 (8 * (l0.length : Int))) (wrap64 (x5_2 - 1))) else (none)) = some r := by first | (rw [hji11] at H; exact H) | (simp only [hji11] at H ⊢; exact H)
       have hji11_ : ((wrap64 (8 * (l0.length : Int))) / 2 ^ min (ji9).toNat 64) = ji11 := hji11
       have hji11z : (ji9) ≤ 64 → ((wrap64 (8 * (l0.length : Int))) / 2 ^ (ji9).toNat) = ji11 := shr_small hji11
       replace H := gl H; obtain ⟨LMc12, H⟩ := H
       obtain ⟨y262, Ny262⟩ := nm (x3_2 ++ [(ji11) % 256])
       rw [← Ny262.out] at H
       have H' := mk0 H
       clear H
       go_wp2_with (first | ((with_reducible refine gB' .append #[.tmp 25, .tmp 32] rfl ?_); at_builtin; refine ap (Kd.int .u8) (.tmp 25) (.tmp 32) 36 5 (.int .u8 0) 1 Try.underlying36 info5 u3 x3_2 ((ji11) % 256) [.int .u8 ((ji11) % 256)] (rr HO_3.out) bw (la LMc12) ?_; intro v263 w13 ho hb hg hat; rw [← Ny262.out] at ho; replace HB := mk0 (hb); have HO264 := mk0 (ho); clear HO_3; clear ho hb hg hat))
       go_roundg k2
       case measure => have := HK1.out; have := HK2.out; omega
       case rel => exact ⟨(y262), (wrap64 (x5_2 - 1)), sv, H', hk2, ⟨rr HO264.out⟩, ⟨bw⟩⟩
     · have c8b0 : decide (0 ≤ x5_2) = false := decide_eq_false c8
       clear c8
       obtain rfl := Option.some.inj H
       go_wp2
       go_ret
       exact ⟨_, sw, rr HO_3.out, bw⟩
  · replace H := gl H; obtain ⟨LMc14, H⟩ := H
    obtain ⟨y259, Ny259⟩ := nm (x3_1 ++ [0])
    rw [← Ny259.out] at H
    have H' := mk0 H
    clear H
    obtain ⟨Ao15, co15, eo15⟩ := Kd.R_slice HO_3.out
    subst eo15
    go_wp2_with (first | ((with_reducible refine gB' .append #[.tmp 15, .tmp 16] rfl ?_); at_builtin; refine ap (Kd.int .u8) (.tmp 15) (.tmp 16) 36 5 (.int .u8 0) 1 Try.underlying36 info5 (.slice Ao15 x3_1.length co15) x3_1 0 [.int .u8 0] (rr HO_3.out) bw (la LMc14) ?_; intro v260 w16 ho hb hg hat; rw [← Ny259.out] at ho; replace HB := mk0 (hb); have HO261 := mk0 (ho); clear HO_3; clear ho hb hg hat))
    go_roundg k1
    case measure => have := HK1.out; omega
    case rel => exact ⟨(y259), H', hk1, ⟨rr HO261.out⟩, ⟨bw⟩⟩
/-! ### bits_RotateLeft32: function 91 -/
def bits_RotateLeft32.f (a0 : Int) (a1 : Int) : Option (Int) := if 0 ≤ (Go.bits .and .u64 (IntKind.u64.wrap (a1)) 31) then (if 0 ≤ (IntKind.u64.wrap (32 - (Go.bits .and .u64 (IntKind.u64.wrap (a1)) 31))) then (some (Go.bits .or .u32 (shl .u32 a0 (Go.bits .and .u64 (IntKind.u64.wrap (a1)) 31)) (shr .u32 a0 (IntKind.u64.wrap (32 - (Go.bits .and .u64 (IntKind.u64.wrap (a1)) 31)))))) else (none)) else (none)
theorem bits_RotateLeft32.calls (a0 : Int) (a1 : Int) (r : Int) (w : World) (h : bits_RotateLeft32.f a0 a1 = some r) :
    Calls Try.prog 91 #[.int .u32 a0, .int .i64 a1] w fun e w' => e = .returned (.int .u32 r) ∧ Drawn0 w w' := by
 have H : (if 0 ≤ (Go.bits .and .u64 (IntKind.u64.wrap (a1)) 31) then (if 0 ≤ (IntKind.u64.wrap (32 - (Go.bits .and .u64 (IntKind.u64.wrap (a1)) 31))) then (some (Go.bits .or .u32 (shl .u32 a0 (Go.bits .and .u64 (IntKind.u64.wrap (a1)) 31)) (shr .u32 a0 (IntKind.u64.wrap (32 - (Go.bits .and .u64 (IntKind.u64.wrap (a1)) 31)))))) else (none)) else (none)) = some r := h
 clear h
 obtain ⟨ji3, hji3⟩ : ∃ j_ : Int, (Go.bits .and .u64 (IntKind.u64.wrap (a1)) 31) = j_ := ⟨_, rfl⟩
 replace H : (if 0 ≤ (ji3) then (if 0 ≤ (IntKind.u64.wrap (32 - (ji3))) then (some (Go.bits .or .u32 (shl .u32 a0 (ji3)) (shr .u32 a0 (IntKind.u64.wrap (32 - (ji3)))))) else (none)) else (none)) = some r := by first | (rw [hji3] at H; exact H) | (simp only [hji3] at H ⊢; exact H)
 replace H := ge H; obtain ⟨c4b0, c4b1, H⟩ := H
 obtain ⟨ji5, hji5⟩ : ∃ j_ : Int, (shl .u32 a0 (ji3)) = j_ := ⟨_, rfl⟩
 replace H : (if 0 ≤ (IntKind.u64.wrap (32 - (ji3))) then (some (Go.bits .or .u32 (ji5) (shr .u32 a0 (IntKind.u64.wrap (32 - (ji3)))))) else (none)) = some r := by first | (rw [hji5] at H; exact H) | (simp only [hji5] at H ⊢; exact H)
 have hji5_ : (IntKind.u32.wrap (a0 * 2 ^ min (ji3).toNat 32)) = ji5 := hji5
 have hji5z : (ji3) ≤ 32 → (IntKind.u32.wrap (a0 * 2 ^ (ji3).toNat)) = ji5 := shl_small hji5
 obtain ⟨ji6, hji6⟩ : ∃ j_ : Int, (IntKind.u64.wrap (32 - (ji3))) = j_ := ⟨_, rfl⟩
 replace H : (if 0 ≤ (ji6) then (some (Go.bits .or .u32 (ji5) (shr .u32 a0 (ji6)))) else (none)) = some r := by first | (rw [hji6] at H; exact H) | (simp only [hji6] at H ⊢; exact H)
 replace H := ge H; obtain ⟨c7b0, c7b1, H⟩ := H
 obtain ⟨ji8, hji8⟩ : ∃ j_ : Int, (shr .u32 a0 (ji6)) = j_ := ⟨_, rfl⟩
 replace H : (some (Go.bits .or .u32 (ji5) (ji8))) = some r := by first | (rw [hji8] at H; exact H) | (simp only [hji8] at H ⊢; exact H)
 have hji8_ : (a0 / 2 ^ min (ji6).toNat 32) = ji8 := hji8
 have hji8z : (ji6) ≤ 32 → (a0 / 2 ^ (ji6).toNat) = ji8 := shr_small hji8
 obtain rfl := Option.some.inj H
 go_enter Try.func91, Try.ntmps91
 go_wp2
 go_ret
 exact ⟨by first | rfl | (simp; done) | (simp only [← hji3, ← hji5, ← hji6, ← hji8] <;> (first | rfl | simp)) | (simp [*]; done), by repeat (first | exact Drawn0.refl _ | apply Drawn0.step)⟩
-- NOT PRINTED: function 90 (impl_wordsOf)

-- NOT PRINTED: function 68 (impl_turnBlock)

end Go.Proofs.Ytlekeiokdmnboaa.Pa
end

section
/- What SHA-256 computes, over words of 32 bits, and how the whole numbers of Go's code tell it: plain Lean, no program. -/
namespace Go.Proofs.Ytlekeiokdmnboaa.Sha
open Go

/-- A word as the whole number that holds it. -/
def U (x : BitVec 32) : Int := (x.toNat : Int)
theorem U_nonneg (x : BitVec 32) : 0 ≤ U x := Int.natCast_nonneg _
theorem U_lt (x : BitVec 32) : U x < 4294967296 := by have := x.isLt; unfold U; omega
theorem U_add (a b : BitVec 32) : (U a + U b) % 4294967296 = U (a + b) := by
  unfold U; rw [BitVec.toNat_add]; omega
theorem U_add3 (a b c : BitVec 32) : (U a + U b + U c) % 4294967296 = U (a + b + c) := by
  rw [← U_add, ← U_add]; omega
theorem U_add4 (a b c d : BitVec 32) : (U a + U b + U c + U d) % 4294967296 = U (a + b + c + d) := by
  rw [← U_add, ← U_add, ← U_add]; omega
theorem U_add5 (a b c d e : BitVec 32) : (U a + U b + U c + U d + U e) % 4294967296 = U (a + b + c + d + e) := by
  rw [← U_add, ← U_add, ← U_add, ← U_add]; omega
theorem U_add7 (a b c d e f g : BitVec 32) : (U a + U b + U c + U d + U e + U f + U g) % 4294967296 = U (a + b + c + d + e + f + g) := by
  rw [← U_add, ← U_add, ← U_add, ← U_add, ← U_add, ← U_add]; omega
theorem U_add1_5 (x a b c d e : BitVec 32) : (U x + (U a + U b + U c + U d + U e)) % 4294967296 = U (x + (a + b + c + d + e)) := by
  rw [← U_add x, ← U_add5]; omega
theorem U_mod (a : BitVec 32) : U a % 4294967296 = U a := by
  have := U_lt a; have := U_nonneg a; omega
theorem ofInt_U32 (a : BitVec 32) : BitVec.ofInt 32 (U a) = a := by
  unfold U; rw [BitVec.ofInt_natCast]; simp
theorem toNat_ofInt64 (a : BitVec 32) : (BitVec.ofInt 64 (U a)).toNat = a.toNat := by
  unfold U; rw [BitVec.ofInt_natCast, BitVec.toNat_ofNat]; have := a.isLt; omega
theorem xor32 (a b : BitVec 32) : bits .xor .u32 (U a) (U b) = U (a ^^^ b) := by
  show IntKind.u32.wrap ((BitVec.ofInt 32 (U a) ^^^ BitVec.ofInt 32 (U b)).toNat : Int) = _
  rw [ofInt_U32, ofInt_U32, IntKind.wrap_u32]; exact U_mod _
theorem and32 (a b : BitVec 32) : bits .and .u32 (U a) (U b) = U (a &&& b) := by
  show IntKind.u32.wrap ((BitVec.ofInt 32 (U a) &&& BitVec.ofInt 32 (U b)).toNat : Int) = _
  rw [ofInt_U32, ofInt_U32, IntKind.wrap_u32]; exact U_mod _
theorem or32 (a b : BitVec 32) : bits .or .u32 (U a) (U b) = U (a ||| b) := by
  show IntKind.u32.wrap ((BitVec.ofInt 32 (U a) ||| BitVec.ofInt 32 (U b)).toNat : Int) = _
  rw [ofInt_U32, ofInt_U32, IntKind.wrap_u32]; exact U_mod _
theorem wrap64_small (n : Nat) (h : n < 9223372036854775808) : IntKind.i64.wrap (n : Int) = n := by
  rw [IntKind.wrap_i64]; omega
theorem xor64 (a b : BitVec 32) : bits .xor .i64 (U a) (U b) = U (a ^^^ b) := by
  show IntKind.i64.wrap ((BitVec.ofInt 64 (U a) ^^^ BitVec.ofInt 64 (U b)).toNat : Int) = _
  rw [BitVec.toNat_xor, toNat_ofInt64, toNat_ofInt64, ← BitVec.toNat_xor, wrap64_small _ (by have := (a ^^^ b).isLt; omega)]; rfl
theorem and64 (a b : BitVec 32) : bits .and .i64 (U a) (U b) = U (a &&& b) := by
  show IntKind.i64.wrap ((BitVec.ofInt 64 (U a) &&& BitVec.ofInt 64 (U b)).toNat : Int) = _
  rw [BitVec.toNat_and, toNat_ofInt64, toNat_ofInt64, ← BitVec.toNat_and, wrap64_small _ (by have := (a &&& b).isLt; omega)]; rfl
theorem or64 (a b : BitVec 32) : bits .or .i64 (U a) (U b) = U (a ||| b) := by
  show IntKind.i64.wrap ((BitVec.ofInt 64 (U a) ||| BitVec.ofInt 64 (U b)).toNat : Int) = _
  rw [BitVec.toNat_or, toNat_ofInt64, toNat_ofInt64, ← BitVec.toNat_or, wrap64_small _ (by have := (a ||| b).isLt; omega)]; rfl
/-- All ones, turned into a word: its complement. -/
theorem not64 (a : BitVec 32) : bits .xor .i64 4294967295 (U a) = U (~~~a) := by
  have h : (4294967295 : Int) = U (BitVec.allOnes 32) := by decide
  rw [h, xor64]; congr 1
theorem not32 (a : BitVec 32) : bits .xor .u32 4294967295 (U a) = U (~~~a) := by
  have h : (4294967295 : Int) = U (BitVec.allOnes 32) := by decide
  rw [h, xor32]; congr 1
/-- The lowest 32 bits of a number that is not negative. -/
theorem mask64 (x : Int) (h0 : 0 ≤ x) (h1 : x < 4611686018427387904) : bits .and .i64 x 4294967295 = x % 4294967296 := by
  have := bits_mask .i64 62 (by decide) (fun n a b => by rw [IntKind.wrap_i64]; omega) 32 (by decide) x h0 h1
  exact this
theorem shr_U (a : BitVec 32) (n : Nat) : U a / 2 ^ n = U (a >>> n) := by
  unfold U; rw [BitVec.toNat_ushiftRight, Nat.shiftRight_eq_div_pow]; simp
/-- A turn to the right, as the reference computes it. -/
theorem turn64 (a : BitVec 32) (n : Nat) (h2 : 2 ≤ n) (h32 : n < 32) : bits .and .i64 (bits .or .i64 (U a / 2 ^ n) (U a * 2 ^ (32 - n))) 4294967295 = U (a.rotateRight n) := by
  have ha := a.isLt
  have hx : U a / 2 ^ n = ((a.toNat >>> n : Nat) : Int) := by unfold U; rw [Nat.shiftRight_eq_div_pow]; simp
  have hy : U a * 2 ^ (32 - n) = ((a.toNat <<< (32 - n) : Nat) : Int) := by unfold U; rw [Nat.shiftLeft_eq]; simp
  have hb : a.toNat >>> n < 2 ^ 62 := by rw [Nat.shiftRight_eq_div_pow]; exact Nat.lt_of_le_of_lt (Nat.div_le_self _ _) (by omega)
  have hp : 2 ^ (32 - n) ≤ 2 ^ 30 := Nat.pow_le_pow_right (by decide) (by omega)
  have hc : a.toNat <<< (32 - n) < 2 ^ 62 := by
    rw [Nat.shiftLeft_eq]
    calc a.toNat * 2 ^ (32 - n) ≤ a.toNat * 2 ^ 30 := Nat.mul_le_mul_left _ hp
      _ < 2 ^ 62 := by omega
  rw [hx, hy, (bits_nat .i64 62 (by decide) (fun n a b => by rw [IntKind.wrap_i64]; omega) _ _ hb hc).2,
    mask64 _ (Int.natCast_nonneg _) (by have := Nat.or_lt_two_pow hb hc; omega)]
  unfold U
  rw [BitVec.toNat_rotateRight, Nat.mod_eq_of_lt h32]
  have : (a.toNat >>> n ||| a.toNat <<< (32 - n)) % 4294967296 = a.toNat >>> n ||| a.toNat <<< (32 - n) % 2 ^ 32 := by
    show _ % 2 ^ 32 = _
    rw [Nat.or_mod_two_pow]
    congr 1
    exact Nat.mod_eq_of_lt (by rw [Nat.shiftRight_eq_div_pow]; exact Nat.lt_of_le_of_lt (Nat.div_le_self _ _) ha)
  rw [← this]; simp
/-- A turn to the left by 32 - n, as math/bits computes it, is a turn to the right by n. -/
theorem turn32 (a : BitVec 32) (n : Nat) (h32 : n < 32) : bits .or .u32 ((U a * 2 ^ (32 - n)) % 4294967296) (U a / 2 ^ n) = U (a.rotateRight n) := by
  have ha := a.isLt
  have hx : U a / 2 ^ n = U (a >>> n) := shr_U a n
  have hy : (U a * 2 ^ (32 - n)) % 4294967296 = U (a <<< (32 - n)) := by
    unfold U; rw [BitVec.toNat_shiftLeft, Nat.shiftLeft_eq]; simp
  rw [hx, hy, or32, BitVec.or_comm]
  congr 1
  apply BitVec.eq_of_toNat_eq
  rw [BitVec.toNat_rotateRight, Nat.mod_eq_of_lt h32, BitVec.toNat_or, BitVec.toNat_ushiftRight, BitVec.toNat_shiftLeft]

/-! ### The words of a block -/
def sg0 (x : BitVec 32) : BitVec 32 := x.rotateRight 7 ^^^ x.rotateRight 18 ^^^ x >>> 3
def sg1 (x : BitVec 32) : BitVec 32 := x.rotateRight 17 ^^^ x.rotateRight 19 ^^^ x >>> 10
/-- Four bytes, the highest first. -/
def word (a b c d : Int) : BitVec 32 := BitVec.ofInt 32 (a * 16777216 + b * 65536 + c * 256 + d)
/-- The word of number n: of the first sixteen as m tells them. -/
def W (m : Nat → BitVec 32) (n : Nat) : BitVec 32 :=
  if n < 16 then m n else W m (n - 16) + sg0 (W m (n - 15)) + W m (n - 7) + sg1 (W m (n - 2))
termination_by n
decreasing_by all_goals omega
theorem W_low (m : Nat → BitVec 32) (n : Nat) (h : n < 16) : W m n = m n := by rw [W, if_pos h]
theorem W_high (m : Nat → BitVec 32) (n : Nat) (h : ¬ n < 16) : W m n = W m (n - 16) + sg0 (W m (n - 15)) + W m (n - 7) + sg1 (W m (n - 2)) := by rw [W, if_neg h]

/-! ### One round -/
structure H8 where
  a : BitVec 32
  b : BitVec 32
  c : BitVec 32
  d : BitVec 32
  e : BitVec 32
  f : BitVec 32
  g : BitVec 32
  h : BitVec 32
def H8.get (v : H8) : Nat → BitVec 32
  | 0 => v.a
  | 1 => v.b
  | 2 => v.c
  | 3 => v.d
  | 4 => v.e
  | 5 => v.f
  | 6 => v.g
  | 7 => v.h
  | _ => 0
def bs0 (x : BitVec 32) : BitVec 32 := x.rotateRight 2 ^^^ x.rotateRight 13 ^^^ x.rotateRight 22
def bs1 (x : BitVec 32) : BitVec 32 := x.rotateRight 6 ^^^ x.rotateRight 11 ^^^ x.rotateRight 25
def ch (e f g : BitVec 32) : BitVec 32 := e &&& f ^^^ ~~~e &&& g
def maj (a b c : BitVec 32) : BitVec 32 := a &&& b ^^^ a &&& c ^^^ b &&& c
def step (k w : BitVec 32) (v : H8) : H8 :=
  let t1 := v.h + bs1 v.e + ch v.e v.f v.g + k + w
  ⟨t1 + bs0 v.a + maj v.a v.b v.c, v.a, v.b, v.c, v.d + t1, v.e, v.f, v.g⟩
def steps (k w : Nat → BitVec 32) (v : H8) : Nat → H8
  | 0 => v
  | n + 1 => step (k n) (w n) (steps k w v n)
def plus (v h : H8) : H8 := ⟨h.a + v.a, h.b + v.b, h.c + v.c, h.d + v.d, h.e + v.e, h.f + v.f, h.g + v.g, h.h + v.h⟩
/-- The constants of the cube roots of the first 64 primes. -/
def KL : List Nat := [0x428a2f98, 0x71374491, 0xb5c0fbcf, 0xe9b5dba5, 0x3956c25b, 0x59f111f1, 0x923f82a4, 0xab1c5ed5,
  0xd807aa98, 0x12835b01, 0x243185be, 0x550c7dc3, 0x72be5d74, 0x80deb1fe, 0x9bdc06a7, 0xc19bf174,
  0xe49b69c1, 0xefbe4786, 0x0fc19dc6, 0x240ca1cc, 0x2de92c6f, 0x4a7484aa, 0x5cb0a9dc, 0x76f988da,
  0x983e5152, 0xa831c66d, 0xb00327c8, 0xbf597fc7, 0xc6e00bf3, 0xd5a79147, 0x06ca6351, 0x14292967,
  0x27b70a85, 0x2e1b2138, 0x4d2c6dfc, 0x53380d13, 0x650a7354, 0x766a0abb, 0x81c2c92e, 0x92722c85,
  0xa2bfe8a1, 0xa81a664b, 0xc24b8b70, 0xc76c51a3, 0xd192e819, 0xd6990624, 0xf40e3585, 0x106aa070,
  0x19a4c116, 0x1e376c08, 0x2748774c, 0x34b0bcb5, 0x391c0cb3, 0x4ed8aa4a, 0x5b9cca4f, 0x682e6ff3,
  0x748f82ee, 0x78a5636f, 0x84c87814, 0x8cc70208, 0x90befffa, 0xa4506ceb, 0xbef9a3f7, 0xc67178f2]
def K (n : Nat) : BitVec 32 := BitVec.ofNat 32 (KL.getD n 0)
def first : H8 := ⟨0x6a09e667, 0xbb67ae85, 0x3c6ef372, 0xa54ff53a, 0x510e527f, 0x9b05688c, 0x1f83d9ab, 0x5be0cd19⟩
/-- The words of a block of bytes that begins at 'at'. -/
def wordAt (p : List Int) (i : Nat) : BitVec 32 := word (p.getD (4 * i) 0) (p.getD (4 * i + 1) 0) (p.getD (4 * i + 2) 0) (p.getD (4 * i + 3) 0)
def block (h : H8) (p : List Int) : H8 := plus (steps K (W (wordAt p)) h 64) h
/-- The bytes of block number j. -/
def chunk (p : List Int) (j : Nat) : List Int := (p.drop (64 * j)).take 64
def digest8 (p : List Int) : H8 := (List.range (p.length / 64)).foldl (fun h j => block h (chunk p j)) first
def bytes4 (x : BitVec 32) : List Int := [U x / 16777216 % 256, U x / 65536 % 256, U x / 256 % 256, U x % 256]
def outUpTo (h : H8) (n : Nat) : List Int := (List.range n).flatMap fun i => bytes4 (h.get i)
/-- What may be turned: whole blocks of bytes. -/
def WholeB (p : List Int) : Prop := p.length % 64 = 0 ∧ 0 < p.length ∧ p.length < 140737488355328 ∧ ∀ x ∈ p, 0 ≤ x ∧ x ≤ 255
instance (p : List Int) : Decidable (WholeB p) := by unfold WholeB; infer_instance
theorem chunk_getD (p : List Int) (j i : Nat) (hi : i < 64) : (chunk p j).getD i 0 = p.getD (64 * j + i) 0 := by
  unfold chunk
  simp [List.getD_eq_getElem?_getD, List.getElem?_take, hi, List.getElem?_drop]
theorem getD_byte (p : List Int) (h : ∀ x ∈ p, 0 ≤ x ∧ x ≤ 255) (i : Nat) : 0 ≤ p.getD i 0 ∧ p.getD i 0 ≤ 255 := by
  rw [List.getD_eq_getElem?_getD]
  rcases hx : p[i]? with _ | x
  · simp
  · exact h x (List.mem_of_getElem? hx)
theorem chunk_byte (p : List Int) (h : ∀ x ∈ p, 0 ≤ x ∧ x ≤ 255) (j i : Nat) : 0 ≤ (chunk p j).getD i 0 ∧ (chunk p j).getD i 0 ≤ 255 :=
  getD_byte _ (fun x hx => h x (List.mem_of_mem_drop (List.mem_of_mem_take hx))) i
end Go.Proofs.Ytlekeiokdmnboaa.Sha
end

section
/- The walks of what turns a block of bytes in the program's digest: words, rounds, one block. -/
namespace Go.Proofs.Ytlekeiokdmnboaa.Dig
open Go.RowKit Go.Proofs.YtlekeiokdmnboaaW.PrintWords Go.Proofs.YtlekeiokdmnboaaW.PrintLast Go.Proofs.YtlekeiokdmnboaaW.PrintMore Go.Proofs.Ytlekeiokdmnboaa.Sha
set_option linter.unusedVariables false
set_option linter.unusedSimpArgs false

theorem rot_bits (m : Nat) (h : m < 32) : Go.bits .and .u64 (IntKind.u64.wrap ((m : Int) - 32)) 31 = (m : Int) := by
  rw [IntKind.wrap_u64]
  have e : ((m : Int) - 32) % 18446744073709551616 = if m < 32 then (m : Int) + 18446744073709551584 else 0 := by
    rw [if_pos h]; omega
  rw [e, if_pos h]
  have := bits_mask .u64 64 (by decide) (fun n a b => by rw [IntKind.wrap_u64]; omega) 5 (by decide) ((m : Int) + 18446744073709551584) (by omega) (by omega)
  have e2 : ((2 : Int) ^ 5 - 1) = 31 := by decide
  rw [e2] at this
  rw [this]; omega
theorem rot_calls (x : BitVec 32) (n : Nat) (k : Int) (hk : k = -(n : Int)) (h1 : 1 ≤ n) (h2 : n < 32) (w : World) :
    Calls Try.prog 91 #[.int .u32 (U x), .int .i64 k] w fun e w' => e = .returned (.int .u32 (U (x.rotateRight n))) ∧ w = w' := by
  obtain ⟨m, hm⟩ : ∃ m : Nat, m = 32 - n := ⟨_, rfl⟩
  have hkm : k = (m : Int) - 32 := by omega
  have hb0 : Go.bits .and .u64 (IntKind.u64.wrap k) 31 = (m : Int) := by rw [hkm]; exact rot_bits m (by omega)
  have hb1 : IntKind.u64.wrap (32 - (m : Int)) = (n : Int) := by rw [IntKind.wrap_u64]; omega
  have hr := turn32 x n h2
  rw [show 32 - n = min m 32 by omega, show U x / 2 ^ n = U x / 2 ^ min n 32 by rw [Nat.min_eq_left (by omega)]] at hr
  have HR := Lib.hid hr
  clear hr hk hkm hm h1 h2
  go_enter Try.func91, Try.ntmps91
  go_wp2
  go_ret
  exact ⟨by rw [HR.out]; rfl, rfl⟩
theorem rot_any (x : BitVec 32) (k : Int) (h1 : -32 < k) (h2 : k < 0) (w : World) :
    Calls Try.prog 91 #[.int .u32 (U x), .int .i64 k] w fun e w' => e = .returned (.int .u32 (U (x.rotateRight (-k).toNat))) ∧ w = w' :=
  rot_calls x (-k).toNat k (by omega) (by omega) (by omega) w

/-- Block b is an array of n words. -/
def Arr (W : World) (b t n : Nat) (f : Nat → Int) : Prop := W.heap[b]? = some (.cells ((List.range n).map fun j => Value.int .u32 (f j)).toArray t (0, 0))
theorem Arr.cell {W : World} {b t n : Nat} {f : Nat → Int} (h : Arr W b t n f) (j : Nat) (hj : j < n) : W.cell? ⟨b, j, none⟩ = some (.int .u32 (f j)) := by
  unfold Arr at h
  simp [World.cell?, h, hj]
theorem Arr.free {W : World} {b t n : Nat} {f : Nat → Int} (h : Arr W b t n f) (j : Nat) : W.frozen? ⟨b, j, none⟩ = false := by
  unfold Arr at h
  simp [World.frozen?, h]
theorem Arr.lt {W : World} {b t n : Nat} {f : Nat → Int} (h : Arr W b t n f) : b < W.heap.size := (Array.getElem?_eq_some_iff.1 h).1
theorem Arr.set {W : World} {b t n : Nat} {f : Nat → Int} (h : Arr W b t n f) (j : Nat) (v : Int) : Arr (W.setCell ⟨b, j, none⟩ (.int .u32 v)) b t n (fun i => if i = j then v else f i) := by
  unfold Arr at h ⊢
  have h1 := blk_set h j (.int .u32 v)
  rw [h1]
  congr 2
  apply Array.ext_getElem?
  intro i
  simp [Array.getElem?_setIfInBounds]
  by_cases hi : i < n
  · by_cases hij : j = i
    · subst hij; simp [hi]
    · simp [hi, hij, show ¬ i = j from fun e => hij e.symm]
  · by_cases hij : j = i
    · subst hij; simp [hi]
    · simp [hi, hij]
theorem Arr.below {W W1 : World} {b t n : Nat} {f : Nat → Int} (h : Arr W b t n f) (hb : Below W.heap.size W W1) : Arr W1 b t n f := (hb.block b h.lt).trans h
theorem Arr.drewN {W : World} {b t n : Nat} {f : Nat → Int} (h : Arr W b t n f) (m : Nat) : Arr (W.drewN m) b t n f := h
theorem Arr.drew {W : World} {b t n : Nat} {f : Nat → Int} (h : Arr W b t n f) : Arr W.drew b t n f := h

theorem Arr.congr {W : World} {b t n : Nat} {f g : Nat → Int} (h : Arr W b t n f) (hfg : ∀ j, j < n → f j = g j) : Arr W b t n g := by
  unfold Arr at h ⊢
  rw [h]
  congr 3
  exact List.map_congr_left (fun j hj => by rw [hfg j (by simpa using hj)])
theorem or_add (a b : Nat) (i : Nat) (hb : b < 2 ^ i) (ha : a % 2 ^ i = 0) : a ||| b = a + b := by
  have hq : a = 2 ^ i * (a / 2 ^ i) := by have := Nat.div_add_mod a (2 ^ i); omega
  rw [hq, ← Nat.two_pow_add_eq_or_of_lt hb]
theorem word_bits (x0 x1 x2 x3 : Int) (h0 : 0 ≤ x0) (k0 : x0 ≤ 255) (h1 : 0 ≤ x1) (k1 : x1 ≤ 255) (h2 : 0 ≤ x2) (k2 : x2 ≤ 255) (h3 : 0 ≤ x3) (k3 : x3 ≤ 255) :
    Go.bits .or .u32 (Go.bits .or .u32 (Go.bits .or .u32 (x0 * 16777216) (x1 * 65536)) (x2 * 256)) x3 = U (word x0 x1 x2 x3) := by
  obtain ⟨a, rfl⟩ := Int.eq_ofNat_of_zero_le h0
  obtain ⟨b, rfl⟩ := Int.eq_ofNat_of_zero_le h1
  obtain ⟨c, rfl⟩ := Int.eq_ofNat_of_zero_le h2
  obtain ⟨d, rfl⟩ := Int.eq_ofNat_of_zero_le h3
  have e0 : (a : Int) * 16777216 = ((a * 16777216 : Nat) : Int) := by omega
  have e1 : (b : Int) * 65536 = ((b * 65536 : Nat) : Int) := by omega
  have e2 : (c : Int) * 256 = ((c * 256 : Nat) : Int) := by omega
  have hk : ∀ n : Int, 0 ≤ n → n < 2 ^ 32 → IntKind.u32.wrap n = n := fun n x y => by rw [IntKind.wrap_u32]; omega
  rw [e0, e1, e2, (bits_nat .u32 32 (by decide) hk _ _ (by omega) (by omega)).2, or_add _ _ 24 (by omega) (by omega),
    (bits_nat .u32 32 (by decide) hk _ _ (by omega) (by omega)).2, or_add _ _ 16 (by omega) (by omega),
    (bits_nat .u32 32 (by decide) hk _ _ (by omega) (by omega)).2, or_add _ _ 8 (by omega) (by omega)]
  unfold U word
  have : ((a : Int) * 16777216 + (b : Int) * 65536 + (c : Int) * 256 + (d : Int)) = ((a * 16777216 + b * 65536 + c * 256 + d : Nat) : Int) := by omega
  rw [this, BitVec.ofInt_natCast, BitVec.toNat_ofNat]
  omega

theorem sg0_bits (x : BitVec 32) : Go.bits .xor .u32 (Go.bits .xor .u32 (U (x.rotateRight 7)) (U (x.rotateRight 18))) (U x / 8) = U (sg0 x) := by
  have := shr_U x 3
  rw [show (2 : Int) ^ 3 = 8 by decide] at this
  rw [this, xor32, xor32]; rfl
theorem sg1_bits (x : BitVec 32) : Go.bits .xor .u32 (Go.bits .xor .u32 (U (x.rotateRight 17)) (U (x.rotateRight 19))) (U x / 1024) = U (sg1 x) := by
  have := shr_U x 10
  rw [show (2 : Int) ^ 10 = 1024 by decide] at this
  rw [this, xor32, xor32]; rfl

set_option maxHeartbeats 1000000 in
set_option maxRecDepth 100000 in
theorem words_calls (pb off c : Nat) (l : List Int) (w : World) (hcell : ∀ j, j < 64 → w.cell? ⟨pb, off + j, none⟩ = some (.int .u8 (l.getD j 0))) (hbyte : ∀ j, 0 ≤ l.getD j 0 ∧ l.getD j 0 ≤ 255) :
    Calls Try.prog 90 #[.slice (some ⟨pb, off, none⟩) 64 c] w fun e w' => e = .returned (.pointer (some ⟨w.heap.size, 0, none⟩)) ∧ Arr w' w.heap.size 120 64 (fun j => U (W (wordAt l) j)) ∧ Below w.heap.size w w' := by
  have hpb : pb < w.heap.size := World.block_lt_of_cell? w _ (hcell 0 (by omega))
  go_enter Try.func90, Try.ntmps90
  go_wp2_with fail
  have hA0 : Arr (w.alloc (.cells ((List.range 64).map fun _ => Value.int .u32 0).toArray 120)) w.heap.size 120 64 (fun j => if j < 0 then U (wordAt l j) else 0) := by
    unfold Arr
    simpa using heap_alloc_new w (.cells ((List.range 64).map fun _ => Value.int .u32 0).toArray 120)
  have HA0 := Aside0.mk hA0
  clear hA0
  have HC := Aside0.mk hcell
  have HY := Aside0.mk hbyte
  clear hcell hbyte
  go_loopw [10] (fun i wr => ∃ k : Nat, k ≤ 16 ∧ i = .int .i64 k ∧ Aside0 (Arr wr w.heap.size 120 64 (fun j => if j < k then U (wordAt l j) else 0)) ∧ Aside0 (Below w.heap.size w wr)) (fun i _ => 16 - (intOf i).toNat)
  case atStart => exact ⟨0, by omega, rfl, HA0, ⟨(Below.refl _ _).alloc (Nat.le_refl _) _⟩⟩
  case round =>
    obtain ⟨k, hk, rfl, HA, HB⟩ := hrel
    clear HA0
    by_cases hlt : k < 16
    · have c0 := (HB.out.cell (p := ⟨pb, off + 4 * k, none⟩) hpb).trans (HC.out (4 * k) (by omega))
      have c1 := (HB.out.cell (p := ⟨pb, off + (4 * k + 1), none⟩) hpb).trans (HC.out (4 * k + 1) (by omega))
      have c2 := (HB.out.cell (p := ⟨pb, off + (4 * k + 2), none⟩) hpb).trans (HC.out (4 * k + 2) (by omega))
      have c3 := (HB.out.cell (p := ⟨pb, off + (4 * k + 3), none⟩) hpb).trans (HC.out (4 * k + 3) (by omega))
      have b0 := HY.out (4 * k)
      have b1 := HY.out (4 * k + 1)
      have b2 := HY.out (4 * k + 2)
      have b3 := HY.out (4 * k + 3)
      generalize hx0 : l.getD (4 * k) 0 = x0 at c0 b0
      generalize hx1 : l.getD (4 * k + 1) 0 = x1 at c1 b1
      generalize hx2 : l.getD (4 * k + 2) 0 = x2 at c2 b2
      generalize hx3 : l.getD (4 * k + 3) 0 = x3 at c3 b3
      have HX : Aside0 (wordAt l k = word x0 x1 x2 x3) := ⟨by unfold wordAt; rw [hx0, hx1, hx2, hx3]⟩
      clear hx0 hx1 hx2 hx3
      obtain ⟨b00, b01⟩ := b0
      obtain ⟨b10, b11⟩ := b1
      obtain ⟨b20, b21⟩ := b2
      obtain ⟨b30, b31⟩ := b3
      have ca := HA.out.cell k (by omega)
      have cf := HA.out.free k
      have m0 : IntKind.i64.wrap (4 * (k : Int)) = 4 * (k : Int) := by rw [IntKind.wrap_i64]; omega
      have m1 : IntKind.i64.wrap (4 * (k : Int) + 1) = 4 * (k : Int) + 1 := by rw [IntKind.wrap_i64]; omega
      have m2 : IntKind.i64.wrap (4 * (k : Int) + 2) = 4 * (k : Int) + 2 := by rw [IntKind.wrap_i64]; omega
      have m3 : IntKind.i64.wrap (4 * (k : Int) + 3) = 4 * (k : Int) + 3 := by rw [IntKind.wrap_i64]; omega
      have n0 : (4 * (k : Int)).toNat = 4 * k := by omega
      have n1 : (4 * (k : Int) + 1).toNat = 4 * k + 1 := by omega
      have n2 : (4 * (k : Int) + 2).toNat = 4 * k + 2 := by omega
      have n3 : (4 * (k : Int) + 3).toNat = 4 * k + 3 := by omega
      have p0 : 0 ≤ 4 * (k : Int) := by omega
      have p1 : 0 ≤ 4 * (k : Int) + 1 := by omega
      have p2 : 0 ≤ 4 * (k : Int) + 2 := by omega
      have p3 : 0 ≤ 4 * (k : Int) + 3 := by omega
      have q0 : 4 * (k : Int) < 64 := by omega
      have q1 : 4 * (k : Int) + 1 < 64 := by omega
      have q2 : 4 * (k : Int) + 2 < 64 := by omega
      have q3 : 4 * (k : Int) + 3 < 64 := by omega
      have q4 : (k : Int) < 64 := by omega
      have p4 : 0 ≤ (k : Int) := by omega
      go_wp2_with fail
      go_still_tail 35, (by kernel_rfl)
      change wpList _ _ _ _ _ wr.drew
      have ca' : wr.drew.cell? ⟨w.heap.size, k, none⟩ = _ := ca
      have cf' : wr.drew.frozen? ⟨w.heap.size, k, none⟩ = _ := cf
      have HW := Aside0.mk (word_bits x0 x1 x2 x3 b00 b01 b10 b11 b20 b21 b30 b31)
      clear m0 m1 m2 m3 n0 n1 n2 n3 p0 p1 p2 p3 q0 q1 q2 q3 q4 p4 ca cf c0 c1 c2 c3
      go_wp2_with fail
      go_roundw
      case rel =>
        refine ⟨k + 1, by omega, by go_num, ⟨?_⟩, ⟨?_⟩⟩
        · refine ((HA.out.drew).set k _).congr (fun j hj => ?_)
          by_cases hjk : j = k
          · subst hjk
            simp only [if_true, Nat.lt_succ_self]
            rw [HW.out, HX.out]
          · simp only [hjk, if_false]
            by_cases h2 : j < k
            · rw [if_pos h2, if_pos (by omega)]
            · rw [if_neg h2, if_neg (by omega)]
        · exact (HB.out.drew).setCell (p := ⟨w.heap.size, k, none⟩) (Nat.le_refl _) _
      case measure => simp [intOf]; omega
    · obtain rfl : k = 16 := by omega
      go_wp2_with fail
      have HA1 := Aside0.mk (HA.out.congr (g := fun j => if j < 16 then U (W (wordAt l) j) else 0) (fun j _ => by
        by_cases h : j < 16
        · simp only [if_pos h, W_low _ _ h]
        · simp only [if_neg h]))
      clear HA HC HY
      go_loopw [5] (fun i wr => ∃ k : Nat, 16 ≤ k ∧ k ≤ 64 ∧ i = .int .i64 k ∧ Aside0 (Arr wr w.heap.size 120 64 (fun j => if j < k then U (W (wordAt l) j) else 0)) ∧ Aside0 (Below w.heap.size w wr)) (fun i _ => 64 - (intOf i).toNat)
      case atStart => exact ⟨16, by omega, by omega, rfl, HA1, HB⟩
      case round =>
        clear HA1 HB
        obtain ⟨k, hk0, hk, rfl, HA, HB⟩ := hrel
        by_cases hlt : k < 64
        · obtain ⟨k15, h15⟩ : ∃ q : Nat, k = q + 15 := ⟨k - 15, by omega⟩
          obtain ⟨k16, h16⟩ : ∃ q : Nat, k = q + 16 := ⟨k - 16, by omega⟩
          obtain ⟨k2, h2⟩ : ∃ q : Nat, k = q + 2 := ⟨k - 2, by omega⟩
          obtain ⟨k7, h7⟩ : ∃ q : Nat, k = q + 7 := ⟨k - 7, by omega⟩
          have HS : Aside0 (W (wordAt l) k = W (wordAt l) k16 + sg0 (W (wordAt l) k15) + W (wordAt l) k7 + sg1 (W (wordAt l) k2)) := ⟨by
            rw [W_high _ _ (by omega), show k - 16 = k16 by omega, show k - 15 = k15 by omega, show k - 7 = k7 by omega, show k - 2 = k2 by omega]⟩
          have s15 : IntKind.i64.wrap ((k : Int) - 15) = (k15 : Int) := by rw [IntKind.wrap_i64]; omega
          have s16 : IntKind.i64.wrap ((k : Int) - 16) = (k16 : Int) := by rw [IntKind.wrap_i64]; omega
          have s2 : IntKind.i64.wrap ((k : Int) - 2) = (k2 : Int) := by rw [IntKind.wrap_i64]; omega
          have s7 : IntKind.i64.wrap ((k : Int) - 7) = (k7 : Int) := by rw [IntKind.wrap_i64]; omega
          have l15 : (k15 : Int) < 64 := by omega
          have l16 : (k16 : Int) < 64 := by omega
          have l2 : (k2 : Int) < 64 := by omega
          have l7 : (k7 : Int) < 64 := by omega
          have lk : (k : Int) < 64 := by omega
          have c15 := HA.out.cell k15 (by omega)
          have c16 := HA.out.cell k16 (by omega)
          have c2 := HA.out.cell k2 (by omega)
          have c7 := HA.out.cell k7 (by omega)
          have ck := HA.out.cell k (by omega)
          have cf := HA.out.free k
          rw [if_pos (by omega)] at c15 c16 c2 c7
          rw [if_neg (by omega)] at ck
          have H15 := Aside0.mk h15
          have H16 := Aside0.mk h16
          have H2 := Aside0.mk h2
          have H7 := Aside0.mk h7
          clear h15 h16 h2 h7
          generalize W (wordAt l) k15 = X15 at c15 HS
          generalize W (wordAt l) k16 = X16 at c16 HS
          generalize W (wordAt l) k2 = X2 at c2 HS
          generalize W (wordAt l) k7 = X7 at c7 HS
          go_wp2_with fail
          go_quiet (fail)
          go_wp2_with (go_at_call 91; refine (rot_any _ _ (by decide) (by decide) _).mono ?_; rintro e w' ⟨rfl, rfl⟩)
          rw [sg0_bits, sg1_bits]
          have d16 : (wr.drewN nq).cell? ⟨w.heap.size, k16, none⟩ = _ := c16
          have d7 : (wr.drewN nq).cell? ⟨w.heap.size, k7, none⟩ = _ := c7
          have dk : (wr.drewN nq).cell? ⟨w.heap.size, k, none⟩ = _ := ck
          have df : (wr.drewN nq).frozen? ⟨w.heap.size, k, none⟩ = _ := cf
          have HA2 := Aside0.mk (HA.out.drewN nq)
          have HB2 := Aside0.mk (pw_below_drewN HB.out nq)
          clear c15 c16 c2 c7 ck cf HA HB
          generalize wr.drewN nq = wq at d16 d7 dk df HA2 HB2 ⊢
          go_still_tail 15, (by kernel_rfl)
          change wpList _ _ _ _ _ wq.drew
          have ck' : wq.drew.cell? ⟨w.heap.size, k, none⟩ = _ := dk
          have cf' : wq.drew.frozen? ⟨w.heap.size, k, none⟩ = _ := df
          clear s15 s16 s2 s7 l15 l16 l2 l7 lk d16 d7 dk df
          go_wp2_with fail
          go_roundw
          case rel =>
            repeat apply Exists.intro
            refine ⟨?_, rfl⟩
            refine ⟨k + 1, by omega, by omega, by go_num, ⟨?_⟩, ⟨?_⟩⟩
            · refine ((HA2.out.drew).set k _).congr (fun j hj => ?_)
              by_cases hjk : j = k
              · subst hjk
                show (if j = j then _ else _) = (if j < j + 1 then _ else _)
                rw [if_pos rfl, if_pos (Nat.lt_succ_self _)]
                rw [U_add4, HS.out]
              · simp only [hjk, if_false]
                by_cases h2 : j < k
                · rw [if_pos h2, if_pos (by omega)]
                · rw [if_neg h2, if_neg (by omega)]
            · exact (HB2.out.drew).setCell (p := ⟨w.heap.size, k, none⟩) (Nat.le_refl _) _
          case measure => simp [intOf]; omega
        · obtain rfl : k = 64 := by omega
          go_wp2_with fail
          go_ret
          exact ⟨rfl, HA.out.congr (fun j hj => if_pos hj), HB.out⟩
end Go.Proofs.Ytlekeiokdmnboaa.Dig
end

section
/- The walks of what turns a block of bytes in the program's digest: the rounds' constants, one block. -/
namespace Go.Proofs.Ytlekeiokdmnboaa.Dig
open Go.RowKit Go.Proofs.YtlekeiokdmnboaaW.PrintWords Go.Proofs.YtlekeiokdmnboaaW.PrintLast Go.Proofs.YtlekeiokdmnboaaW.PrintMore Go.Proofs.Ytlekeiokdmnboaa.Sha
set_option linter.unusedVariables false
set_option linter.unusedSimpArgs false

set_option maxHeartbeats 1000000 in
set_option maxRecDepth 100000 in
theorem rounds_calls (w : World) :
    Calls Try.prog 65 #[] w fun e w' => e = .returned (.pointer (some ⟨w.heap.size, 0, none⟩)) ∧ Arr w' w.heap.size 120 64 (fun j => U (K j)) ∧ Below w.heap.size w w' := by
  go_enter Try.func65, Try.ntmps65
  go_wp2_with fail
  go_ret
  refine ⟨rfl, ?_, (Below.refl _ _).alloc (Nat.le_refl _) _⟩
  unfold Arr
  rw [show (((List.range 64).map fun j => Value.int .u32 (U (K j))).toArray) = _ from by
    simp only [List.range, List.range.loop, List.map, K, KL, U, List.getD_cons_zero, List.getD_cons_succ]
    rfl]
  exact heap_alloc_new w _

/-- Block b is an array of eight words. -/
def Arr8 (W : World) (b : Nat) (v : H8) : Prop := W.heap[b]? = some (.cells #[.int .u32 (U v.a), .int .u32 (U v.b), .int .u32 (U v.c), .int .u32 (U v.d), .int .u32 (U v.e), .int .u32 (U v.f), .int .u32 (U v.g), .int .u32 (U v.h)] 92 (0, 0))
theorem Arr8.lt {W : World} {b : Nat} {v : H8} (h : Arr8 W b v) : b < W.heap.size := (Array.getElem?_eq_some_iff.1 h).1
theorem Arr8.of {W : World} {b : Nat} {v : H8} (h : Arr W b 92 8 (fun j => U (v.get j))) : Arr8 W b v := h
theorem Arr8.to {W : World} {b : Nat} {v : H8} (h : Arr8 W b v) : Arr W b 92 8 (fun j => U (v.get j)) := h
theorem Arr8.cells {W : World} {b : Nat} {v : H8} (h : Arr8 W b v) : W.cell? ⟨b, 0, none⟩ = some (.int .u32 (U v.a)) ∧ W.cell? ⟨b, 1, none⟩ = some (.int .u32 (U v.b)) ∧ W.cell? ⟨b, 2, none⟩ = some (.int .u32 (U v.c)) ∧ W.cell? ⟨b, 3, none⟩ = some (.int .u32 (U v.d)) ∧
    W.cell? ⟨b, 4, none⟩ = some (.int .u32 (U v.e)) ∧ W.cell? ⟨b, 5, none⟩ = some (.int .u32 (U v.f)) ∧ W.cell? ⟨b, 6, none⟩ = some (.int .u32 (U v.g)) ∧ W.cell? ⟨b, 7, none⟩ = some (.int .u32 (U v.h)) :=
  ⟨h.to.cell 0 (by omega), h.to.cell 1 (by omega), h.to.cell 2 (by omega), h.to.cell 3 (by omega), h.to.cell 4 (by omega), h.to.cell 5 (by omega), h.to.cell 6 (by omega), h.to.cell 7 (by omega)⟩
theorem Arr8.free {W : World} {b : Nat} {v : H8} (h : Arr8 W b v) : W.frozen? ⟨b, 0, none⟩ = false ∧ W.frozen? ⟨b, 1, none⟩ = false ∧ W.frozen? ⟨b, 2, none⟩ = false ∧ W.frozen? ⟨b, 3, none⟩ = false ∧
    W.frozen? ⟨b, 4, none⟩ = false ∧ W.frozen? ⟨b, 5, none⟩ = false ∧ W.frozen? ⟨b, 6, none⟩ = false ∧ W.frozen? ⟨b, 7, none⟩ = false :=
  ⟨h.to.free 0, h.to.free 1, h.to.free 2, h.to.free 3, h.to.free 4, h.to.free 5, h.to.free 6, h.to.free 7⟩

def put8 (W : World) (b : Nat) (x0 x1 x2 x3 x4 x5 x6 x7 : Int) : World :=
  (((((((W.setCell ⟨b, 0, none⟩ (.int .u32 x0)).setCell ⟨b, 1, none⟩ (.int .u32 x1)).setCell ⟨b, 2, none⟩ (.int .u32 x2)).setCell ⟨b, 3, none⟩ (.int .u32 x3)).setCell ⟨b, 4, none⟩ (.int .u32 x4)).setCell ⟨b, 5, none⟩ (.int .u32 x5)).setCell ⟨b, 6, none⟩ (.int .u32 x6)).setCell ⟨b, 7, none⟩ (.int .u32 x7)
theorem put8_at {W : World} {b : Nat} {v : H8} (h : Arr8 W b v) (x0 x1 x2 x3 x4 x5 x6 x7 : Int) (v' : H8) (e0 : x0 = U v'.a) (e1 : x1 = U v'.b) (e2 : x2 = U v'.c) (e3 : x3 = U v'.d) (e4 : x4 = U v'.e) (e5 : x5 = U v'.f) (e6 : x6 = U v'.g) (e7 : x7 = U v'.h) :
    Arr8 (put8 W b x0 x1 x2 x3 x4 x5 x6 x7) b v' := by
  subst e0 e1 e2 e3 e4 e5 e6 e7
  refine Arr8.of (((((((((h.to.set 0 _).set 1 _).set 2 _).set 3 _).set 4 _).set 5 _).set 6 _).set 7 _).congr (fun j hj => ?_))
  rcases j with _ | _ | _ | _ | _ | _ | _ | _ | j
  · rfl
  · rfl
  · rfl
  · rfl
  · rfl
  · rfl
  · rfl
  · rfl
  · omega
theorem put8_far {W : World} {b : Nat} (x0 x1 x2 x3 x4 x5 x6 x7 : Int) (a : Nat) (hne : a ≠ b) : (put8 W b x0 x1 x2 x3 x4 x5 x6 x7).heap[a]? = W.heap[a]? := by
  have hs : ∀ (W : World) (j : Nat) (u : Value), (W.setCell ⟨b, j, none⟩ u).heap[a]? = W.heap[a]? := fun W j u => Below.heap_setCell W ⟨b, j, none⟩ u a hne
  unfold put8
  rw [hs, hs, hs, hs, hs, hs, hs, hs]
theorem put8_below {B : Nat} {w W : World} {b : Nat} (h : Below B w W) (hb : B ≤ b) (x0 x1 x2 x3 x4 x5 x6 x7 : Int) : Below B w (put8 W b x0 x1 x2 x3 x4 x5 x6 x7) :=
  (((((((h.setCell (p := ⟨b, 0, none⟩) hb _).setCell (p := ⟨b, 1, none⟩) hb _).setCell (p := ⟨b, 2, none⟩) hb _).setCell (p := ⟨b, 3, none⟩) hb _).setCell (p := ⟨b, 4, none⟩) hb _).setCell (p := ⟨b, 5, none⟩) hb _).setCell (p := ⟨b, 6, none⟩) hb _).setCell (p := ⟨b, 7, none⟩) hb _
theorem bs1_bits (x : BitVec 32) : Go.bits .xor .u32 (Go.bits .xor .u32 (U (x.rotateRight 6)) (U (x.rotateRight 11))) (U (x.rotateRight 25)) = U (bs1 x) := by rw [xor32, xor32]; rfl
theorem bs0_bits (x : BitVec 32) : Go.bits .xor .u32 (Go.bits .xor .u32 (U (x.rotateRight 2)) (U (x.rotateRight 13))) (U (x.rotateRight 22)) = U (bs0 x) := by rw [xor32, xor32]; rfl
theorem ch_bits (e f g : BitVec 32) : Go.bits .xor .u32 (Go.bits .and .u32 (U e) (U f)) (Go.bits .and .u32 (Go.bits .xor .u32 IntKind.u32.max (U e)) (U g)) = U (ch e f g) := by
  rw [show IntKind.u32.max = 4294967295 by decide, not32, and32, and32, xor32]; rfl
theorem maj_bits (a b c : BitVec 32) : Go.bits .xor .u32 (Go.bits .xor .u32 (Go.bits .and .u32 (U a) (U b)) (Go.bits .and .u32 (U a) (U c))) (Go.bits .and .u32 (U b) (U c)) = U (maj a b c) := by
  rw [and32, and32, and32, xor32, xor32]; rfl

set_option maxHeartbeats 2000000 in
set_option maxRecDepth 100000 in
theorem turn_calls (hb kb pb off c : Nat) (v0 : H8) (l : List Int) (w : World) (HH : Arr8 w hb v0) (HK : Arr w kb 120 64 (fun j => U (K j)))
    (hcell : ∀ j, j < 64 → w.cell? ⟨pb, off + j, none⟩ = some (.int .u8 (l.getD j 0))) (hbyte : ∀ j, 0 ≤ l.getD j 0 ∧ l.getD j 0 ≤ 255) :
    Calls Try.prog 68 #[.pointer (some ⟨hb, 0, none⟩), .slice (some ⟨pb, off, none⟩) 64 c, .pointer (some ⟨kb, 0, none⟩)] w fun e w' => e = .returned (.tuple #[]) ∧ Arr8 w' hb (block v0 l) ∧ w.grownBy w' (some hb) := by
  have hhb := HH.lt
  have hkb := HK.lt
  have HH' := Aside0.mk HH
  have HK' := Aside0.mk HK
  clear HH HK
  go_enter Try.func68, Try.ntmps68
  go_wp2_with fail
  refine (words_calls pb off c l _ hcell hbyte).mono ?_
  rintro e w1 ⟨rfl, hw1, hb1⟩
  have HW1 := Aside0.mk hw1
  have HB1 := Aside0.mk hb1
  have HH1 := Aside0.mk (show Arr8 w1 hb v0 from (hb1.block hb hhb).trans HH'.out)
  have HK1 := Aside0.mk (show Arr w1 kb 120 64 (fun j => U (K j)) from HK'.out.below hb1)
  have hlt1 := hw1.lt
  clear hcell hbyte hw1 hb1 HH' HK'
  obtain ⟨c0, c1, c2, c3, c4, c5, c6, c7⟩ := HH1.out.cells
  go_wp2_with fail
  have HV := Aside0.mk (show Arr8 (w1.alloc (.cells #[.int .u32 (U v0.a), .int .u32 (U v0.b), .int .u32 (U v0.c), .int .u32 (U v0.d), .int .u32 (U v0.e), .int .u32 (U v0.f), .int .u32 (U v0.g), .int .u32 (U v0.h)] 92)) w1.heap.size v0 from heap_alloc_new w1 _)
  have ha := below_alloc (Below.refl w1.heap.size w1) (.cells #[.int .u32 (U v0.a), .int .u32 (U v0.b), .int .u32 (U v0.c), .int .u32 (U v0.d), .int .u32 (U v0.e), .int .u32 (U v0.f), .int .u32 (U v0.g), .int .u32 (U v0.h)] 92)
  have HH2 := Aside0.mk (show Arr8 _ hb v0 from (ha.block hb (Nat.lt_of_lt_of_le hhb HB1.out.size)).trans HH1.out)
  have HK2 := Aside0.mk (HK1.out.below ha)
  have HW2 := Aside0.mk (HW1.out.below ha)
  have HB2 := Aside0.mk (HB1.out.trans (ha.mono HB1.out.size))
  have HL := Aside0.mk hlt1
  have HLh := Aside0.mk hhb
  have HLk := Aside0.mk hkb
  clear ha hlt1 hhb hkb HH1 HK1 HW1 HB1 c0 c1 c2 c3 c4 c5 c6 c7
  generalize w1.alloc (.cells #[.int .u32 (U v0.a), .int .u32 (U v0.b), .int .u32 (U v0.c), .int .u32 (U v0.d), .int .u32 (U v0.e), .int .u32 (U v0.f), .int .u32 (U v0.g), .int .u32 (U v0.h)] 92) = W2 at HV HH2 HK2 HW2 HB2 ⊢
  generalize w1.heap.size = vb at HV HL ⊢
  generalize hwb : w.heap.size = wb at HW2 HB2 HL HLh HLk ⊢
  go_loopw [22] (fun i wr => ∃ k : Nat, k ≤ 64 ∧ i = .int .i64 k ∧ Aside0 (Arr8 wr vb (steps K (W (wordAt l)) v0 k)) ∧ Aside0 (Arr8 wr hb v0) ∧ Aside0 (Arr wr kb 120 64 (fun j => U (K j))) ∧ Aside0 (Arr wr wb 120 64 (fun j => U (W (wordAt l) j))) ∧ Aside0 (Below wb w wr)) (fun i _ => 64 - (intOf i).toNat)
  case atStart => exact ⟨0, by omega, rfl, HV, HH2, HK2, HW2, HB2⟩
  case round =>
    clear HV HH2 HK2 HW2 HB2
    obtain ⟨k, hk, rfl, HV, HH, HK, HW, HB⟩ := hrel
    by_cases hlt : k < 64
    · have HS : Aside0 (steps K (W (wordAt l)) v0 (k + 1) = Sha.step (K k) (W (wordAt l) k) (steps K (W (wordAt l)) v0 k)) := ⟨rfl⟩
      have ck := HK.out.cell k hlt
      have cw := HW.out.cell k hlt
      generalize steps K (W (wordAt l)) v0 k = v at HV HS
      generalize K k = kk at ck HS
      generalize W (wordAt l) k = ww at cw HS
      obtain ⟨c0, c1, c2, c3, c4, c5, c6, c7⟩ := HV.out.cells
      obtain ⟨f0, f1, f2, f3, f4, f5, f6, f7⟩ := HV.out.free
      have q4 : (k : Int) < 64 := by omega
      go_wp2_with fail
      go_quiet (fail)
      go_wp2_with (go_at_call 91; refine (rot_any _ _ (by decide) (by decide) _).mono ?_; rintro e w' ⟨rfl, rfl⟩)
      rw [bs1_bits, ch_bits]
      have e0 : (wr.drewN nq).cell? ⟨vb, 0, none⟩ = _ := c0
      have e1 : (wr.drewN nq).cell? ⟨vb, 1, none⟩ = _ := c1
      have e2 : (wr.drewN nq).cell? ⟨vb, 2, none⟩ = _ := c2
      have e3 : (wr.drewN nq).cell? ⟨vb, 3, none⟩ = _ := c3
      have e4 : (wr.drewN nq).cell? ⟨vb, 4, none⟩ = _ := c4
      have e5 : (wr.drewN nq).cell? ⟨vb, 5, none⟩ = _ := c5
      have e6 : (wr.drewN nq).cell? ⟨vb, 6, none⟩ = _ := c6
      have e7 : (wr.drewN nq).cell? ⟨vb, 7, none⟩ = _ := c7
      have g0 : (wr.drewN nq).frozen? ⟨vb, 0, none⟩ = _ := f0
      have g1 : (wr.drewN nq).frozen? ⟨vb, 1, none⟩ = _ := f1
      have g2 : (wr.drewN nq).frozen? ⟨vb, 2, none⟩ = _ := f2
      have g3 : (wr.drewN nq).frozen? ⟨vb, 3, none⟩ = _ := f3
      have g4 : (wr.drewN nq).frozen? ⟨vb, 4, none⟩ = _ := f4
      have g5 : (wr.drewN nq).frozen? ⟨vb, 5, none⟩ = _ := f5
      have g6 : (wr.drewN nq).frozen? ⟨vb, 6, none⟩ = _ := f6
      have g7 : (wr.drewN nq).frozen? ⟨vb, 7, none⟩ = _ := f7
      have dk : (wr.drewN nq).cell? ⟨kb, k, none⟩ = _ := ck
      have dw : (wr.drewN nq).cell? ⟨wb, k, none⟩ = _ := cw
      have HV2 : Aside0 (Arr8 (wr.drewN nq) vb v) := ⟨HV.out⟩
      have HH2 : Aside0 (Arr8 (wr.drewN nq) hb v0) := ⟨HH.out⟩
      have HK2 := Aside0.mk (HK.out.drewN nq)
      have HW2 := Aside0.mk (HW.out.drewN nq)
      have HB2 := Aside0.mk (pw_below_drewN HB.out nq)
      clear c0 c1 c2 c3 c4 c5 c6 c7 f0 f1 f2 f3 f4 f5 f6 f7 ck cw HV HH HK HW HB
      generalize wr.drewN nq = wq at e0 e1 e2 e3 e4 e5 e6 e7 g0 g1 g2 g3 g4 g5 g6 g7 dk dw HV2 HH2 HK2 HW2 HB2 ⊢
      go_quiet (fail)
      go_wp2_with (go_at_call 91; refine (rot_any _ _ (by decide) (by decide) _).mono ?_; rintro e w' ⟨rfl, rfl⟩)
      rw [bs0_bits, maj_bits]
      refine ⟨⟨k + 1, by omega, by go_num, ⟨?_⟩, ⟨?_⟩, ⟨?_⟩, ⟨?_⟩, ⟨?_⟩⟩, by simp [intOf]; omega⟩
      · rw [HS.out]
        exact put8_at (W := wq.drewN nq) HV2.out _ _ _ _ _ _ _ _ _ (U_add7 _ _ _ _ _ _ _) rfl rfl rfl (U_add1_5 _ _ _ _ _ _) rfl rfl rfl
      · exact (put8_far (W := wq.drewN nq) (b := vb) _ _ _ _ _ _ _ _ hb (by have := HL.out; have := HLh.out; omega)).trans HH2.out
      · exact (put8_far (W := wq.drewN nq) (b := vb) _ _ _ _ _ _ _ _ kb (by have := HL.out; have := HLk.out; omega)).trans HK2.out
      · exact (put8_far (W := wq.drewN nq) (b := vb) _ _ _ _ _ _ _ _ wb (by have := HL.out; omega)).trans HW2.out
      · exact put8_below (pw_below_drewN HB2.out nq) (by have := HL.out; omega) _ _ _ _ _ _ _ _
    · obtain rfl : k = 64 := by omega
      go_wp2_with fail
      have HT := Aside0.mk (show Arr wr hb 92 8 (fun j => if j < 0 then U (v0.get j + (steps K (W (wordAt l)) v0 64).get j) else U (v0.get j)) from HH.out.to.congr (fun j _ => by rw [if_neg (by omega)]))
      have HG := Aside0.mk (show w.grownBy wr (some hb) from grown_of_below (by rw [hwb]; exact HB.out) _)
      have HX : Aside0 (block v0 l = plus (steps K (W (wordAt l)) v0 64) v0) := ⟨rfl⟩
      clear HH HK HW HB
      generalize steps K (W (wordAt l)) v0 64 = S at HV HT HX
      go_loopw [109] (fun i wr => ∃ k : Nat, k ≤ 8 ∧ i = .int .i64 k ∧ Aside0 (Arr wr hb 92 8 (fun j => if j < k then U (v0.get j + S.get j) else U (v0.get j))) ∧ Aside0 (Arr8 wr vb S) ∧ Aside0 (w.grownBy wr (some hb))) (fun i _ => 8 - (intOf i).toNat)
      case atStart => exact ⟨0, by omega, rfl, HT, HV, HG⟩
      case round =>
        clear HT HV HG
        obtain ⟨k, hk, rfl, HT, HV, HG⟩ := hrel
        by_cases hlt : k < 8
        · have c0 := HT.out.cell k hlt
          rw [if_neg (by omega)] at c0
          have f0 := HT.out.free k
          have c1 := HV.out.to.cell k hlt
          generalize hX : v0.get k = X at c0
          generalize hY : S.get k = Y at c1
          have HX2 := Aside0.mk hX
          have HY2 := Aside0.mk hY
          clear hX hY
          have q4 : (k : Int) < 8 := by omega
          have p4 : 0 ≤ (k : Int) := by omega
          go_wp2_with fail
          go_still_tail 11, (by kernel_rfl)
          change wpList _ _ _ _ _ wr.drew
          have c0' : wr.drew.cell? ⟨hb, k, none⟩ = _ := c0
          have f0' : wr.drew.frozen? ⟨hb, k, none⟩ = _ := f0
          clear c0 c1 f0 q4 p4
          go_wp2_with fail
          go_roundw
          case rel =>
            repeat apply Exists.intro
            refine ⟨?_, rfl⟩
            refine ⟨k + 1, by omega, by go_num, ⟨?_⟩, ⟨?_⟩, ⟨?_⟩⟩
            · refine ((HT.out.set k _).drew).congr (fun j hj => ?_)
              by_cases hjk : j = k
              · subst hjk
                show (if j = j then _ else _) = (if j < j + 1 then _ else _)
                rw [if_pos rfl, if_pos (Nat.lt_succ_self _), U_add, HX2.out, HY2.out]
              · simp only [hjk, if_false]
                by_cases h2 : j < k
                · rw [if_pos h2, if_pos (by omega)]
                · rw [if_neg h2, if_neg (by omega)]
            · exact (Below.heap_setCell wr ⟨hb, k, none⟩ _ vb (by show vb ≠ hb; have := HL.out; have := HLh.out; omega)).trans HV.out
            · exact ⟨HG.out.os, HG.out.tape, HG.out.output, by simpa [World.setCell] using HG.out.size, fun i hi hne => (Below.heap_setCell wr ⟨hb, k, none⟩ _ i (fun e => hne (by rw [e]))).trans (HG.out.block i hi hne)⟩
          case measure => simp [intOf]; omega
        · obtain rfl : k = 8 := by omega
          go_wp2_with fail
          go_end0
          refine ⟨rfl, ?_, HG.out⟩
          rw [HX.out]
          refine Arr8.of (HT.out.congr (fun j hj => ?_))
          rw [if_pos hj]
          rcases j with _ | _ | _ | _ | _ | _ | _ | _ | j
          · rfl
          · rfl
          · rfl
          · rfl
          · rfl
          · rfl
          · rfl
          · rfl
          · omega
end Go.Proofs.Ytlekeiokdmnboaa.Dig
end

section
/- The iterator over the blocks of 64 bytes: slices.Chunk at 64, for whatever body keeps its two variables. -/
namespace Go.Proofs.Ytlekeiokdmnboaa.Dig
open Go.RowKit Go.Shelf Go.Proofs.YtlekeiokdmnboaaW.PrintWords Go.Proofs.YtlekeiokdmnboaaW.PrintLast Go.Proofs.YtlekeiokdmnboaaW.PrintMore Go.Proofs.Ytlekeiokdmnboaa.Sha
attribute [local go_sem] Oper.semAt_some
set_option linter.unusedVariables false
set_option linter.unusedSimpArgs false

/-- The two variables of the iterator stay. -/
def Keeps2 (sb nb : Nat) (W W' : World) : Prop := W'.heap[sb]? = W.heap[sb]? ∧ W'.heap[nb]? = W.heap[nb]?
theorem keeps2_t {sb nb : Nat} {A B C : World} (h : Keeps2 sb nb A B) (k : Keeps2 sb nb B C) : Keeps2 sb nb A C := ⟨k.1.trans h.1, k.2.trans h.2⟩
def upF (m k : Nat) : List (Fin m) := (List.finRange m).take k
theorem upF_succ {m k : Nat} (h : k < m) : upF m k ++ [⟨k, h⟩] = upF m (k + 1) := by
  unfold upF
  rw [List.take_succ_eq_append_getElem (by simpa using h)]
  simp
theorem upF_length {m k : Nat} (h : k ≤ m) : (upF m k).length = k := by unfold upF; simp [h]

set_option maxRecDepth 100000 in
set_option maxHeartbeats 2000000 in
theorem chunk1_in (F : Fence) (n : Nat) (h7 : F.fn 88) (hro : F.round = none) (hn : 1 ≤ n) (l sb nb pb m cap : Nat) (hm : 64 * m ≤ 140737488355328) (hcap : 64 * m ≤ cap) (J Jx : List (Fin m) → World → Prop)
    (W : World) (hJ : AbidesFrom W.heap.size J)
    (hY : ∀ pre x W, J pre W → pre.length < m → YieldAt F (n - 1) Try.prog l #[.slice (some ⟨pb, 64 * x.1, none⟩) 64 64] W fun e W' =>
      (e = .returned (.bool true) ∧ J (pre ++ [x]) W' ∧ Keeps2 sb nb W W') ∨ (e = .returned (.bool false) ∧ Jx (pre ++ [x]) W'))
    (L : Nat) (hL : L = 64 * m) (hs : W.cell? ⟨sb, 0, none⟩ = some (.slice (some ⟨pb, 0, none⟩) L cap)) (hc : W.cell? ⟨nb, 0, none⟩ = some (.int .i64 64)) (h0 : J [] W) :
    CallsIn F n Try.prog 88 #[.func (.yield l) #[] #[], .pointer (some ⟨sb, 0, none⟩), .pointer (some ⟨nb, 0, none⟩)] W fun e W' => (∃ v, e = .returned v) ∧
      ((∃ ys, ys = List.finRange m ∧ J ys W') ∨ (∃ pre, Jx pre W')) := by
  have HL := Aside0.mk hL
  have hLm : L ≤ 140737488355328 := by omega
  have hLc : L ≤ cap := by omega
  clear hL
  refine callsIn_of_wp Try.func88 rfl h7 ?_ hro
  simp only [Try.ntmps88, List.size_toArray, List.length_cons, List.length_nil, Nat.reduceAdd, Nat.reduceSub, Array.replicate_succ, Array.replicate_zero, List.push_toArray, List.append_toArray, List.nil_append, List.cons_append]
  gi_wp2
  gi_loopw [4] (fun i wr => ∃ k : Nat, k ≤ m ∧ i = .int .i64 ((64 * k : Nat) : Int) ∧ Aside0 (J (upF m k) wr) ∧ Aside0 (Keeps2 sb nb W wr) ) (fun i _ => L - (intOf i).toNat)
  case atStart => exact ⟨0, Nat.zero_le _, by simp, ⟨h0⟩, ⟨⟨rfl, rfl⟩⟩⟩
  case round =>
    obtain ⟨k, hk, rfl, HJ, HK⟩ := hrel
    have cs : wr.cell? ⟨sb, 0, none⟩ = _ := (World.cell?_of_block (a := ⟨sb, 0, none⟩) HK.out.1).trans hs
    have cn : wr.cell? ⟨nb, 0, none⟩ = _ := (World.cell?_of_block (a := ⟨nb, 0, none⟩) HK.out.2).trans hc
    by_cases hlt : k < m
    · have hLL := HL.out
      have q1 : (64 * k : Nat) < L := by omega
      have q2 : (0 : Int) ≤ ((64 * k : Nat) : Int) := by omega
      have q3 : ((64 * k : Nat) : Int) ≤ (L : Int) := by omega
      have q4 : ¬ cap = 64 * k := by omega
      have q5 : ((((L - 64 * k : Nat) : Int) < 64) = False) := eq_false (by omega)
      have q6 : 64 * k + 64 ≤ cap := by omega
      have q7 : 64 * k + 64 ≤ 140737488355328 := by omega
      clear hLL
      generalize hK : (64 * k : Nat) = K at q1 q2 q3 q4 q5 q6 q7 ⊢
      have HKK := Aside0.mk hK
      clear hK
      gi_wp2
      gi_region
      all_goals
        have HJ2 : J (upF m k) wr.drew := hJ _ wr wr.drew none HJ.out ⟨rfl, rfl, rfl, Nat.le_refl _, fun _ _ _ => rfl⟩ (fun r e => by cases e)
        have cs2 : wr.drew.cell? ⟨sb, 0, none⟩ = _ := cs
        have cn2 : wr.drew.cell? ⟨nb, 0, none⟩ = _ := cn
        obtain ⟨fn, tmps, assign, body, hy, hR⟩ := hY _ ⟨k, hlt⟩ wr.drew HJ2 (by rw [upF_length hk]; exact hlt)
        dsimp only at hy
        rw [HKK.out] at hy
        gi_wp2
        refine hR.mono ?_
        rintro e W3 (⟨rfl, hJ3, hk3⟩ | ⟨rfl, hJx3⟩)
        · have cn3 : W3.cell? ⟨nb, 0, none⟩ = _ := (World.cell?_of_block (a := ⟨nb, 0, none⟩) hk3.2).trans cn2
          have HJ3 := Aside0.mk hJ3
          have HK3 := Aside0.mk hk3
          clear hJ3 hk3 hR hy
          gi_wp2
          go_roundw
          case rel => exact ⟨k + 1, by omega, by have := HKK.out; rw [show 64 * (k + 1) = K + 64 by omega]; simp, ⟨by rw [← upF_succ hlt]; exact HJ3.out⟩, ⟨keeps2_t HK.out (show Keeps2 sb nb wr W3 from HK3.out)⟩⟩
          case measure => simp [intOf]; omega
        · gi_wp2
          refine bodyPost_ret (results_none rfl _ _ _) rfl ?_
          exact ⟨⟨_, rfl⟩, .inr ⟨_, hJx3⟩⟩
    · obtain rfl : k = m := by omega
      have e : (64 * k : Nat) = L := HL.out.symm
      rw [e]
      gi_wp2
      go_end0
      exact ⟨⟨_, rfl⟩, .inl ⟨_, rfl, by have := HJ.out; unfold upF at this; rwa [List.take_of_length_le (by simp)] at this⟩⟩
end Go.Proofs.Ytlekeiokdmnboaa.Dig
end

section
/- slices.Chunk itself, and what stays of a block of cells. -/
namespace Go.Proofs.Ytlekeiokdmnboaa.Dig
open Go.RowKit Go.Shelf Go.Proofs.YtlekeiokdmnboaaW.PrintWords Go.Proofs.YtlekeiokdmnboaaW.PrintLast Go.Proofs.YtlekeiokdmnboaaW.PrintMore Go.Proofs.Ytlekeiokdmnboaa.Sha
set_option linter.unusedVariables false
set_option linter.unusedSimpArgs false
theorem chunk_calls (A : Option Addr) (n c : Nat) (w : World) :
    Calls Try.prog 66 #[.slice A n c, .int .i64 64] w fun e w' => e = .returned (.func (.func 88) #[] #[.pointer (some ⟨w.heap.size, 0, none⟩), .pointer (some ⟨w.heap.size + 1, 0, none⟩)]) ∧
      (w.alloc (.cells #[.slice A n c] 36)).alloc (.cells #[.int .i64 64] 3) = w' := by
  have hmf : ∀ (fn : Fn) (first cap : Array Value) (w : World), (Instr.makeFunc fn first cap).run Try.prog w = .ok (.func fn first cap) w := fun _ _ _ _ => rfl
  go_enter Try.func66, Try.ntmps66
  go_wp2
  go_ret
  exact ⟨rfl, rfl⟩
/-- A block of cells abides what the loop keeps book in. -/
theorem blk_own {W W' : World} {b : Nat} {c : Array Value} {t : TypeId} {fr : Nat × Nat} {row : Option Nat} (h : W.heap[b]? = some (.cells c t fr)) (hg : W.grownBy W' row) (hr : ∀ r, row = some r → ∃ o : Obj, W.heap[r]? = some o ∧ o.isCells = false) : W'.heap[b]? = some (.cells c t fr) := by
  refine (hg.block b (Array.getElem?_eq_some_iff.1 h).1 (fun e => ?_)).trans h
  obtain ⟨o, ho, hc⟩ := hr b e.symm
  rw [h] at ho
  cases ho
  cases hc
theorem keeps2_b {sb nb : Nat} {w : World} (h1 : sb < w.heap.size) (h2 : nb < w.heap.size) (W : World) (l : Nat) (o o' : Obj) (hl : w.heap.size ≤ l) (h : W.heap[l]? = some o) (_ : o.isCells = false) (_ : o.isWalk = false) : Keeps2 sb nb W (W.putObj l o') :=
  ⟨World.putObj_heap_other (by omega), World.putObj_heap_other (by omega)⟩
theorem chunk_stops (n sb nb pb m L cap : Nat) (hn : 1 ≤ n) (hm : 64 * m ≤ 140737488355328) (hcap : 64 * m ≤ cap) (hL : L = 64 * m) (w : World) (h1 : sb < w.heap.size) (h2 : nb < w.heap.size)
    (hs : w.heap[sb]? = some (.cells #[.slice (some ⟨pb, 0, none⟩) L cap] 36 (0, 0))) (hc : w.heap[nb]? = some (.cells #[.int .i64 64] 3 (0, 0))) :
    SeqStopsK Fence.wide n Try.prog 88 #[.pointer (some ⟨sb, 0, none⟩), .pointer (some ⟨nb, 0, none⟩)] (fun x : Fin m => #[.slice (some ⟨pb, 64 * x.1, none⟩) 64 64]) (Keeps2 sb nb) (fun ys => ys = List.finRange m) (fun _ => True) m w := fun l J Jx W hW hJ hJx hY h0 => by
  have hs' : W.cell? ⟨sb, 0, none⟩ = some (.slice (some ⟨pb, 0, none⟩) L cap) := by simp [World.cell?, hW.block sb h1, hs]
  have hc' : W.cell? ⟨nb, 0, none⟩ = some (.int .i64 64) := by simp [World.cell?, hW.block nb h2, hc]
  refine (chunk1_in Fence.wide n trivial rfl hn l sb nb pb m cap hm hcap J Jx W hJ (fun pre x W1 hj hp => hY pre x W1 hj hp) L hL hs' hc' h0).mono ?_
  rintro e W' ⟨hv, ⟨ys, rfl, hj⟩ | ⟨pre, hj⟩⟩
  · exact ⟨hv, .inl ⟨_, rfl, hj⟩⟩
  · exact ⟨hv, .inr ⟨pre, trivial, hj⟩⟩
theorem byte_row {w : World} {base e : Nat} {ok : Nat → Prop} {v : Value} {p : List Int} (ho : Kd.R (Kd.int .u8) e w base ok v p) (h0 : 0 < p.length) :
    ∃ g cap cur, v = .slice (some ⟨g, 0, none⟩) p.length cap ∧ p.length ≤ cap ∧ base ≤ g ∧ w.heap[g]? = some (.cells cur e (0, 0)) ∧ ∀ j, j < p.length → cur[j]? = some (.int .u8 (p.getD j 0)) := by
  obtain ⟨inner, hown⟩ := Kd.R_own ho
  obtain ⟨A, c, rfl, hlc, hC⟩ := Kd.R_reads ho
  rcases hown.2 with ⟨_, hn⟩ | ⟨g, cap, cur, hv, hb, hh, hnc, _⟩
  · omega
  · injection hv with hA _ hcap
    subst hA hcap
    refine ⟨g, c, cur, rfl, hlc, hb, hh, fun j hj => ?_⟩
    obtain ⟨ad, e1, hc⟩ := hC.2.2 h0
    injection e1 with e1
    subst e1
    obtain ⟨cs, _, hk, hcell⟩ := hc j _ (List.getElem?_eq_getElem hj)
    have hk' : cs = [Value.int .u8 p[j]] := hk
    have h1 := hcell 0 (.int .u8 p[j]) (by rw [hk']; rfl)
    rw [add_plain] at h1
    have h2 : w.cell? ⟨g, j * 1 + 0, none⟩ = some (.int .u8 p[j]) := h1
    rw [Nat.mul_one, Nat.add_zero] at h2
    simp only [World.cell?, hh] at h2
    rw [List.getD_eq_getElem?_getD, List.getElem?_eq_getElem hj]
    simpa using h2
theorem fold_range (m : Nat) (f : Sha.H8 → Nat → Sha.H8) (s : Sha.H8) : (List.finRange m).foldl (fun h (x : Fin m) => f h x.1) s = (List.range m).foldl f s := by
  have h : List.range m = (List.finRange m).map (fun x => x.1) := by
    apply List.ext_getElem
    · simp
    · intro i h1 h2; simp
  rw [h, List.foldl_map]
end Go.Proofs.Ytlekeiokdmnboaa.Dig
end

section
/- The program's digest of bytes: what it returns, in plain words. -/
-- FOREIGN loop.example/g00244/impl.Digest making=1 rounds=1
namespace Go.Proofs.Ytlekeiokdmnboaa.Pa
open Go.RowKit Go.Proofs.YtlekeiokdmnboaaW.PrintWords Go.Proofs.YtlekeiokdmnboaaW.PrintLast Go.Proofs.YtlekeiokdmnboaaW.PrintMore
attribute [local go_sem] max2_int min2_int max_two min_two max_three min_three max_four min_four   -- for this text's walks alone
def impl_Digest.f (k : Nat) (l0 : List Int) : Option ByteArray := (impl_Padded.f k l0).bind fun p => if Sha.WholeB p then some (strOfNums (Sha.outUpTo (Sha.digest8 p) 8)) else none
theorem impl_Digest.mono : ∀ a0 k, LeO (impl_Digest.f k a0) (impl_Digest.f (k + 1) a0) := fun a0 k => LeO.bind (impl_Padded.mono a0 k) (fun _ => LeO.refl _)
open Go.Shelf
attribute [local go_sem] Oper.semAt_some
set_option maxHeartbeats 2000000 in
set_option maxRecDepth 100000 in
theorem impl_Digest.calls (k : Nat) (A0 : Option Addr) (c0 : Nat) (l0 : List Int) (r : ByteArray) (w : World) (hr0 : Kd.C (Kd.int .u8) w A0 l0.length l0) (hc0 : l0.length ≤ c0) (h : impl_Digest.f k l0 = some r) :
    Calls Try.prog 37 #[.slice A0 l0.length c0] w fun e w' => e = .returned (.string r) ∧ Below w.heap.size w w' := by
  obtain ⟨p, hp, h⟩ := Option.bind_eq_some_iff.1 h
  by_cases hw : Sha.WholeB p
  · rw [if_pos hw] at h
    obtain rfl := Option.some.inj h
    clear h
    have HP := Aside0.mk hp
    have HR := Aside0.mk hr0
    have HW := Aside0.mk hw
    have HC := Aside0.mk hc0
    clear hp hr0 hw hc0
    refine (callsIn_wide (n := 6)).1 ?_
    have t1 : Fence.wide.fn 65 := trivial
    have t2 : Fence.wide.fn 67 := trivial
    have t3 : Fence.wide.fn 66 := trivial
    have t4 : Fence.wide.fn 68 := trivial
    have t5 : Fence.wide.fn 88 := trivial
    refine callsIn_of_wp_marks Try.func37 rfl trivial ?_ rfl
    simp only [Try.ntmps37, List.size_toArray, List.length_cons, List.length_nil, Nat.reduceAdd, Nat.reduceSub, Array.replicate_succ, Array.replicate_zero, List.push_toArray, List.append_toArray, List.nil_append, List.cons_append]
    gi_wp2_with (gi_at_call 65; refine (callsIn_wide.2 (Dig.rounds_calls _)).mono ?_; rintro e w1 ⟨rfl, hk1, hb1⟩; have HK1 := Aside0.mk hk1; have HB1 := Aside0.mk hb1; clear hk1 hb1)
    -- what lies behind the constants
    have hW0 := heap_alloc_new w (.cells #[.int .u32 1779033703, .int .u32 3144134277, .int .u32 1013904242, .int .u32 2773480762, .int .u32 1359893119, .int .u32 2600822924, .int .u32 528734635, .int .u32 1541459225] 92)
    have hs0 : (w.alloc (.cells #[.int .u32 1779033703, .int .u32 3144134277, .int .u32 1013904242, .int .u32 2773480762, .int .u32 1359893119, .int .u32 2600822924, .int .u32 528734635, .int .u32 1541459225] 92)).heap.size = w.heap.size + 1 := by simp
    have hB1 := HB1.out
    rw [hs0] at hB1
    have hk1 := HK1.out
    rw [hs0] at hk1
    have ha := below_alloc (Below.refl w1.heap.size w1) (.cells #[.pointer (some ⟨w.heap.size + 1, 0, none⟩)] 93)
    have hsz1 : w.heap.size + 1 < w1.heap.size := hk1.lt
    have HH2 := Aside0.mk (show Dig.Arr8 (w1.alloc (.cells #[.pointer (some ⟨w.heap.size + 1, 0, none⟩)] 93)) w.heap.size Sha.first from (ha.block _ (by omega)).trans ((hB1.block _ (by omega)).trans hW0))
    have HK2 := Aside0.mk (hk1.below ha)
    have HV2 := Aside0.mk (heap_alloc_new w1 (.cells #[.pointer (some ⟨w.heap.size + 1, 0, none⟩)] 93))
    have HB2 := Aside0.mk (show Below w.heap.size w (w1.alloc (.cells #[.pointer (some ⟨w.heap.size + 1, 0, none⟩)] 93)) from (((Below.refl w.heap.size w).alloc (Nat.le_refl _) _).trans (hB1.mono (by omega))).trans (ha.mono (by omega)))
    have HZ2 : Aside0 (w1.heap.size < (w1.alloc (.cells #[.pointer (some ⟨w.heap.size + 1, 0, none⟩)] 93)).heap.size) := ⟨by simp⟩
    have HL1 := Aside0.mk hsz1
    clear hW0 hs0 hB1 hk1 ha hsz1 HK1 HB1
    generalize hkv : w1.heap.size = kv at HV2 HZ2 HL1 ⊢
    clear hkv
    generalize w1.alloc (.cells #[.pointer (some ⟨w.heap.size + 1, 0, none⟩)] 93) = W2 at HH2 HK2 HV2 HB2 HZ2 ⊢
    refine (callsIn_wide.2 (impl_Padded.calls k A0 c0 l0 p W2 (Kd.C_below HR.out HB2.out) HC.out HP.out)).mono ?_
    rintro e w3 ⟨v, rfl, ho, hb3⟩
    obtain ⟨g, cap, cur, rfl, hlc, hg, hgr, hcur⟩ := Dig.byte_row ho HW.out.2.1
    have HG3 := Aside0.mk hgr
    have HH3 := Aside0.mk (show Dig.Arr8 w3 w.heap.size Sha.first from (hb3.block _ HH2.out.lt).trans HH2.out)
    have HK3 := Aside0.mk (HK2.out.below hb3)
    have HV3 := Aside0.mk ((hb3.block kv HZ2.out).trans HV2.out)
    have HB3 := Aside0.mk (HB2.out.trans (hb3.mono HB2.out.size))
    have HZ3 : Aside0 (kv < w3.heap.size ∧ g < w3.heap.size ∧ kv < g) := ⟨Nat.lt_of_lt_of_le HZ2.out hb3.size, (Array.getElem?_eq_some_iff.1 hgr).1, Nat.lt_of_lt_of_le HZ2.out hg⟩
    have HCU := Aside0.mk hcur
    have HLC := Aside0.mk hlc
    clear ho hlc hg hgr hcur hb3 HH2 HK2 HV2 HB2 HZ2
    dsimp only
    gi_wp2_with (gi_at_call 66; refine (callsIn_wide.2 (Dig.chunk_calls _ _ _ _)).mono ?_; rintro e w' ⟨rfl, rfl⟩)
    have e1 := below_alloc (Below.refl w3.heap.size w3) (.cells #[.slice (some ⟨g, 0, none⟩) p.length cap] 36)
    have e2 := below_alloc e1 (.cells #[.int .i64 64] 3)
    have hs1 : (w3.alloc (.cells #[.slice (some ⟨g, 0, none⟩) p.length cap] 36)).heap.size = w3.heap.size + 1 := by simp
    have HS4 := Aside0.mk ((Below.heap_alloc _ (.cells #[.int .i64 64] 3) w3.heap.size (by rw [hs1]; omega)).trans (heap_alloc_new w3 (.cells #[.slice (some ⟨g, 0, none⟩) p.length cap] 36)))
    have hn4 := heap_alloc_new (w3.alloc (.cells #[.slice (some ⟨g, 0, none⟩) p.length cap] 36)) (.cells #[.int .i64 64] 3)
    rw [hs1] at hn4
    have HN4 := Aside0.mk hn4
    have HH4 := Aside0.mk (show Dig.Arr8 _ w.heap.size Sha.first from (e2.block _ HH3.out.lt).trans HH3.out)
    have HK4 := Aside0.mk (HK3.out.below e2)
    have HV4 := Aside0.mk ((e2.block kv HZ3.out.1).trans HV3.out)
    have HG4 := Aside0.mk ((e2.block g HZ3.out.2.1).trans HG3.out)
    have HB4 := Aside0.mk (HB3.out.trans (e2.mono HB3.out.size))
    have HZ4 := Aside0.mk (show w3.heap.size + 1 < ((w3.alloc (.cells #[.slice (some ⟨g, 0, none⟩) p.length cap] 36)).alloc (.cells #[.int .i64 64] 3)).heap.size by simp)
    have HO4 := Aside0.mk (show w.heap.size + 1 < w3.heap.size by have := HZ3.out.1; have := HL1.out; omega)
    clear e1 e2 hs1 hn4 HH3 HK3 HV3 HG3 HB3
    generalize hsb : w3.heap.size = sb at HS4 HN4 HZ4 HO4 HZ3 ⊢
    generalize (w3.alloc (.cells #[.slice (some ⟨g, 0, none⟩) p.length cap] 36)).alloc (.cells #[.int .i64 64] 3) = W4 at HS4 HN4 HH4 HK4 HV4 HG4 HB4 HZ4 ⊢
    clear hsb
    have HM : Aside0 (p.length = 64 * (p.length / 64)) := ⟨by have := HW.out.1; omega⟩
    have hmle : 64 * (p.length / 64) ≤ 140737488355328 := by have := HW.out.2.2.1; omega
    have hcap : 64 * (p.length / 64) ≤ cap := by have := HLC.out; omega
    refine wpIn_rangeFunc_ownF (F := Fence.wide) rfl (by omega) (gf := 88) (lb := #[.pointer (some ⟨sb, 0, none⟩), .pointer (some ⟨sb + 1, 0, none⟩)]) rfl trivial (enters_of Try.func88 (by kernel_rfl) rfl)
      (Dig.chunk_stops 5 sb (sb + 1) g (p.length / 64) p.length cap (by omega) hmle hcap HM.out W4 (Nat.lt_of_succ_lt HZ4.out) HZ4.out HS4.out HN4.out) (fun h k => Dig.keeps2_t h k) (Dig.keeps2_b (Nat.lt_of_succ_lt HZ4.out) HZ4.out) (Below.refl _ _) (fun _ => rfl)
      (fun pre W => (Dig.Arr8 W w.heap.size (pre.foldl (fun h (x : Fin (p.length / 64)) => Sha.block h (Sha.chunk p x.1)) Sha.first) ∧ Dig.Arr W (w.heap.size + 1) 120 64 (fun j => Sha.U (Sha.K j)) ∧ W.heap[kv]? = some (.cells #[.pointer (some ⟨w.heap.size + 1, 0, none⟩)] 93 (0, 0)) ∧ W.heap[g]? = some (.cells cur 5 (0, 0)) ∧
        W.heap[sb]? = some (.cells #[.slice (some ⟨g, 0, none⟩) p.length cap] 36 (0, 0)) ∧ W.heap[sb + 1]? = some (.cells #[.int .i64 64] 3 (0, 0))) ∧ Below w.heap.size w W)
      (fun _ _ _ => False)
      (OwnFrom.and (Own.from (fun s A B row hs hg hr => ⟨Dig.blk_own hs.1 hg hr, Dig.blk_own hs.2.1 hg hr, Dig.blk_own hs.2.2.1 hg hr, Dig.blk_own hs.2.2.2.1 hg hr, Dig.blk_own hs.2.2.2.2.1 hg hr, Dig.blk_own hs.2.2.2.2.2 hg hr⟩) _) (ownFrom_below (Nat.le_refl _) HB4.out.size))
      (fun _ _ _ _ _ hs _ _ => hs)
      ⟨⟨HH4.out, HK4.out, HV4.out, HG4.out, HS4.out, HN4.out⟩, HB4.out⟩
      (fun x => { tmps := #[.slice A0 l0.length c0, undef, .string ⟨#[]⟩, .pointer (some ⟨w.heap.size, 0, none⟩), .pointer (some ⟨kv, 0, none⟩), .slice (some ⟨g, 64 * x.1, none⟩) 64 64, undef, undef, undef,
        .agg #[.int .u32 1779033703, .int .u32 3144134277, .int .u32 1013904242, .int .u32 2773480762, .int .u32 1359893119, .int .u32 2600822924, .int .u32 528734635, .int .u32 1541459225], .pointer (some ⟨w.heap.size + 1, 0, none⟩), .slice A0 l0.length c0, .slice (some ⟨g, 0, none⟩) p.length cap,
        .func (.func 88) #[] #[.pointer (some ⟨sb, 0, none⟩), .pointer (some ⟨sb + 1, 0, none⟩)], .slice (some ⟨g, 64 * x.1, none⟩) 64 64, undef, undef, undef, undef, undef, undef, undef, undef, undef, undef, undef, undef, undef, undef, undef, undef, undef, undef, undef, undef, undef, undef, undef, undef], defers := [] }) ?assign ?body ?done ?stop
    case assign =>
      intro l x W K hK
      gi_wp2
      exact hK
    case body =>
      rintro l pre x W ⟨⟨h1, h2, h3, h4, h5, h6⟩, hB⟩ _
      have hkc : W.cell? ⟨kv, 0, none⟩ = some (.pointer (some ⟨w.heap.size + 1, 0, none⟩)) := by simp [World.cell?, h3]
      have hcell : ∀ j, j < 64 → W.cell? ⟨g, 64 * x.1 + j, none⟩ = some (.int .u8 ((Sha.chunk p x.1).getD j 0)) := fun j hj => by
        rw [Sha.chunk_getD _ _ _ hj]
        simp only [World.cell?, h4]
        exact HCU.out _ (by have := x.2; omega)
      have hT := Dig.turn_calls w.heap.size (w.heap.size + 1) g (64 * x.1) 64 _ (Sha.chunk p x.1) W h1 h2 hcell (fun j => Sha.chunk_byte p HW.out.2.2.2 x.1 j)
      have HT := Aside0.mk hT
      have G1 := Aside0.mk h1
      have G2 := Aside0.mk h2
      have G3 := Aside0.mk h3
      have G4 := Aside0.mk h4
      have G5 := Aside0.mk h5
      have G6 := Aside0.mk h6
      have GB := Aside0.mk hB
      clear h1 h2 h3 h4 h5 h6 hB hT hcell
      gi_wp2_with (gi_at_call 68; refine (CallsIn.inRound l (callsIn_wide.2 HT.out)).mono ?_; rintro e w' ⟨rfl, hA, hgr⟩; have GA := Aside0.mk hA; have GG := Aside0.mk hgr; clear hA hgr)
      have hgr := GG.out
      refine ⟨KeepsOthers.of_grownBy hgr (fun j o e ho => by cases e; have := G1.out; unfold Dig.Arr8 at this; rw [this] at ho; cases ho; rfl), ⟨hgr.block _ (Array.getElem?_eq_some_iff.1 G5.out).1 (fun e => by have := HO4.out; cases e; omega), hgr.block _ (Array.getElem?_eq_some_iff.1 G6.out).1 (fun e => by have := HO4.out; injection e; omega)⟩, ⟨?_, ?_, ?_, ?_, ?_, ?_⟩, ?_⟩
      · rw [List.foldl_append]; exact GA.out
      · exact (hgr.block _ G2.out.lt (fun e => by injection e; omega)).trans G2.out
      · exact (hgr.block _ (Array.getElem?_eq_some_iff.1 G3.out).1 (fun e => by have := HL1.out; cases e; omega)).trans G3.out
      · exact (hgr.block _ (Array.getElem?_eq_some_iff.1 G4.out).1 (fun e => by have := HL1.out; have := HZ3.out.2.2; cases e; omega)).trans G4.out
      · exact (hgr.block _ (Array.getElem?_eq_some_iff.1 G5.out).1 (fun e => by have := HO4.out; cases e; omega)).trans G5.out
      · exact (hgr.block _ (Array.getElem?_eq_some_iff.1 G6.out).1 (fun e => by have := HO4.out; injection e; omega)).trans G6.out
      · exact GB.out.grown hgr GB.out.size (fun k e => by cases e; exact Nat.le_refl _)
    case done =>
      rintro D ys W hD rfl ⟨⟨h1, _, _, _, _, _⟩, hB⟩ hK
      rw [Dig.fold_range (p.length / 64) (fun h j => Sha.block h (Sha.chunk p j)) Sha.first] at h1
      have h1' : Dig.Arr8 W w.heap.size (Sha.digest8 p) := h1
      generalize hSS : Sha.digest8 p = S at h1' ⊢
      have HSS := Aside0.mk hSS
      clear hSS
      obtain ⟨d0, d1, d2, d3, d4, d5, d6, d7⟩ := h1'.cells
      have hinfo : (Try.prog.info? 5).map (fun i => (i.zero, i.size, i.bytes)) = some (some (.int .u8 0), 1, 1) := by kernel_rfl
      obtain ⟨i0, hi0, hzz⟩ := Option.map_eq_some_iff.1 hinfo
      simp only [Prod.mk.injEq] at hzz
      obtain ⟨hz0, hz1, hz2⟩ := hzz
      have HI := Aside0.mk hi0
      have HZ0 := Aside0.mk hz0
      have HZ1 := Aside0.mk hz1
      have HZ2 := Aside0.mk hz2
      clear hinfo hi0 hz0 hz1 hz2
      have HKD := Aside0.mk hK
      have HB5 := Aside0.mk hB
      have HLD : Aside0 (D < W.heap.size) := ⟨(Array.getElem?_eq_some_iff.1 hK).1⟩
      have HD5 : Aside0 (w.heap.size ≤ D) := ⟨Nat.le_trans HB4.out.size hD⟩
      clear h1 h1' hB hK hD
      gi_wp2
      gi_loopw [6, 19] (fun v i wr => ∃ q : Nat, q ≤ 8 ∧ i = .int .i64 q ∧ Aside0 (wr.ownsRow W.heap.size 5 1 v (4 * q) (nums .u8 (Sha.outUpTo S q))) ∧ Aside0 (Below w.heap.size w wr) ∧ Aside0 (W.heap.size ≤ wr.heap.size) ∧ Aside0 (wr.heap[D]? = some (.deferred (some [])))) (fun _ i _ => 8 - (intOf i).toNat)
      case atStart => exact ⟨0, by omega, rfl, ⟨World.ownsRow_nil _ _ _ _⟩, HB5, ⟨Nat.le_refl _⟩, HKD⟩
      case round =>
        obtain ⟨q, hk, rfl, HO, HB, HS, HK⟩ := hrel
        by_cases hlt : q < 8
        · have hidx : ∀ wx : World, (Instr.index 92 (.agg #[.int .u32 (Sha.U S.a), .int .u32 (Sha.U S.b), .int .u32 (Sha.U S.c), .int .u32 (Sha.U S.d), .int .u32 (Sha.U S.e), .int .u32 (Sha.U S.f), .int .u32 (Sha.U S.g), .int .u32 (Sha.U S.h)]) (.int .i64 (q : Int))).run Try.prog wx = .ok (.int .u32 (Sha.U (S.get q))) wx := by
            intro wx
            rcases q with _ | _ | _ | _ | _ | _ | _ | _ | q
            · kernel_rfl
            · kernel_rfl
            · kernel_rfl
            · kernel_rfl
            · kernel_rfl
            · kernel_rfl
            · kernel_rfl
            · kernel_rfl
            · omega
          generalize hX : S.get q = X at hidx
          have HX := Aside0.mk hX
          clear hX
          gi_wp2_with (gi_at_builtin; refine wpListIn_append_own _ rfl (.tmp 22) (.tmp 34) 36 rfl W.heap.size 5 i0 (.int .u8 0) 1 1 Try.underlying36 HI.out HZ0.out HZ1.out HZ2.out rfl (by decide) _ (4 * q) _ rfl (HO.out.alloc _) ⟨wr.heap.size, 0, none⟩ 4 4 [.int .u8 (Sha.U X / 16777216 % 256), .int .u8 (Sha.U X / 65536 % 256), .int .u8 (Sha.U X / 256 % 256), .int .u8 (Sha.U X % 256)] rfl rfl ?c1 ?c2 ?c3 ?c4 ?c5 ?_; (case c1 => exact World.news_of_block (cs := #[.int .u8 (Sha.U X / 16777216 % 256), .int .u8 (Sha.U X / 65536 % 256), .int .u8 (Sha.U X / 256 % 256), .int .u8 (Sha.U X % 256)]) (t := 5) (fr := (0, 0)) (heap_alloc_new wr _)); (case c2 => simp [Value.oneCell']); (case c3 => simp only [maxLen]; omega); (case c4 => omega); (case c5 => have := HS.out; simp; omega); intro v' w1 hown' hg _; have HO1 := Aside0.mk hown'; have HG1 := Aside0.mk hg; clear hown' hg)
          have hg := HG1.out
          have hS1 : W.heap.size ≤ (wr.alloc (.cells #[.int .u8 (Sha.U X / 16777216 % 256), .int .u8 (Sha.U X / 65536 % 256), .int .u8 (Sha.U X / 256 % 256), .int .u8 (Sha.U X % 256)] 5)).heap.size := by have := HS.out; simp; omega
          go_roundw
          case rel =>
            refine ⟨q + 1, by omega, by go_num, ⟨?_⟩, ⟨?_⟩, ⟨?_⟩, ⟨?_⟩⟩
            · have e : nums .u8 (Sha.outUpTo S (q + 1)) = nums .u8 (Sha.outUpTo S q) ++ [.int .u8 (Sha.U X / 16777216 % 256), .int .u8 (Sha.U X / 65536 % 256), .int .u8 (Sha.U X / 256 % 256), .int .u8 (Sha.U X % 256)] := by
                unfold Sha.outUpTo
                rw [List.range_succ, List.flatMap_append, nums_append]
                congr 1
                simp [Sha.bytes4, nums, HX.out]
              rw [e]
              exact HO1.out
            · exact (HB.out.alloc HB.out.size _).grown hg (by have := HB5.out.size; omega) (fun j ej => Nat.le_trans HB5.out.size (own_base HO.out j ej))
            · exact Nat.le_trans hS1 hg.size
            · refine (hg.block D (Nat.lt_of_lt_of_le HLD.out hS1) (fun ej => ?_)).trans ((Below.heap_alloc wr _ D (Nat.lt_of_lt_of_le HLD.out HS.out)).trans HK.out)
              have := own_base HO.out D ej.symm
              have := HLD.out
              omega
          case measure => simp [intOf]; omega
        · obtain rfl : q = 8 := by omega
          have hcv := own_string (P := Try.prog) (w := wr) (src := 36) (dst := 9) (e := 5) Try.underlying36 Try.underlying5 Try.underlying9 HO.out
          gi_wp2
          refine ⟨by simp, .inl ⟨_, _, rfl, run_takeDeferred HK.out, ?_⟩⟩
          refine ⟨_, results_tmp rfl _ _ _, by rw [HSS.out]; rfl, ?_⟩
          exact HB.out.grown (grownBy_putObj' _ D (.deferred none)) HB.out.size (fun j ej => by cases ej; exact HD5.out)
    case stop =>
      rintro D c pre W _ _ h _
      exact h.elim
  · rw [if_neg hw] at h
    cases h
end Go.Proofs.Ytlekeiokdmnboaa.Pa
end
