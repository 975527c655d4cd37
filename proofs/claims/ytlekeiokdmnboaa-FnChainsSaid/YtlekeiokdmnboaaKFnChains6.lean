/- The law FnChains of the given program: it answers true at every input that its statement speaks of. Part 7 of 7: words, walks of the functions (printed by programs of this session), the plain law, the row. -/
import Derived.Test.YtlekeiokdmnboaaKFnChains2
import Derived.Test.YtlekeiokdmnboaaKFnChains0
import Derived.Test.YtlekeiokdmnboaaKFnChains5
import Derived.Test.YtlekeiokdmnboaaKFnChains4
import Derived.Test.YtlekeiokdmnboaaKFnChains3
import Derived.ChangeArms
import Derived.DataReads
import Derived.Test.YtlekeiokdmnboaaRows
import Derived.WalkKit
import Derived.ProofKit
import Derived.OpenShut
import Derived.ShutString
import Derived.ChangeOld
import Derived.Below
import Derived.SizedLaws
import Derived.Carry
section
namespace Go.Proofs.Ytlekeiokdmnboaa.Pa
open Go.RowKit Go.Proofs.YtlekeiokdmnboaaW.PrintWords Go.Proofs.YtlekeiokdmnboaaW.PrintLast Go.Proofs.YtlekeiokdmnboaaW.PrintMore Go.Proofs.Ytlekeiokdmnboaa.M
attribute [local go_sem] max2_int min2_int max_two min_two max_three min_three max_four min_four   -- for this text's walks alone
set_option linter.unusedVariables false
set_option maxHeartbeats 8000000
set_option maxRecDepth 100000
set_option linter.unusedSimpArgs false

/-! ### laws_szSealS: function 22 -/
def laws_szSealS.l0 : Nat → List (S29) → Int → Int → Option (Int)
  | 0, _, _, _ => none
  | k + 1, x0, x1, x5 => if x5 < (x0.length : Int) then (if 0 ≤ x5 then ((laws_szSeal.f k ((rd_T29 x0 x5).f0) ((rd_T29 x0 x5).f1) ((rd_T29 x0 x5).f2) ((rd_T29 x0 x5).f3) x1).bind fun t552 => (if t552 < 0 then (some (-1)) else (laws_szSealS.l0 k x0 t552 (wrap64 (x5 + 1))))) else (none)) else (some x1)
def laws_szSealS.f (k : Nat) (l0 : List (S29)) (a1 : Int) : Option (Int) := if (wrap64 (a1 - (l0.length : Int))) < 0 then (some (-1)) else (laws_szSealS.l0 k l0 (wrap64 (a1 - (l0.length : Int))) 0)
theorem laws_szSealS.mono_l : ∀ k, (∀ y0 y1 y2, LeO (laws_szSealS.l0 k y0 y1 y2) (laws_szSealS.l0 (k + 1) y0 y1 y2))
  | 0 => fun _ _ _ r h => by simp [laws_szSealS.l0] at h
  | k + 1 => by
    have ih0 := laws_szSealS.mono_l k
    · intro y0 y1 y2
      unfold laws_szSealS.l0
      have m0 := @laws_szSeal.mono
      exact me
theorem laws_szSealS.mono : ∀ a0 a1 k, LeO (laws_szSealS.f k a0 a1) (laws_szSealS.f (k + 1) a0 a1) := by
  intro a0 a1 k
  have ih0 := laws_szSealS.mono_l k
  unfold laws_szSealS.f
  have m0 := @laws_szSeal.mono
  exact me
theorem laws_szSealS.calls (k : Nat) (A0 : Option Addr) (c0 : Nat) (l0 : List (S29)) (a1 : Int) (r : Int) (w : World) (hr0 : Kd.C k29 w A0 l0.length l0) (hc0 : l0.length ≤ c0) (h : laws_szSealS.f k l0 a1 = some r) :
    Calls Try.prog 22 #[.slice A0 l0.length c0, .int .i64 a1] w fun e w' => e = .returned (.int .i64 r) ∧ Below w.heap.size w w' := by
 have hu29 := Try.underlying29
 have HR0 := mk0 hr0
 have HC0 := mk0 hc0
 clear hr0 hc0
 have HB := mk0 (Below.refl w.heap.size w)
 have H : (if (wrap64 (a1 - (l0.length : Int))) < 0 then (some (-1)) else (laws_szSealS.l0 k l0 (wrap64 (a1 - (l0.length : Int))) 0)) = some r := h
 clear h
 replace H := idd H; rcases H with ⟨c3b0, H⟩ | ⟨c3b0, H⟩
 · obtain rfl := Option.some.inj H
   go_enter Try.func22, Try.ntmps22
   go_wp2
   go_ret
   exact ⟨sw, bw⟩
 · have H' := mk0 H
   clear H
   go_enter Try.func22, Try.ntmps22
   go_wp2
   go_loopg [1, 5] k (fun kq v1 v5 w' => ∃ (x1_1 : Int) (x5_1 : Int), v1 = .int .i64 x1_1 ∧ v5 = .int .i64 x5_1 ∧ Aside0 (laws_szSealS.l0 kq l0 x1_1 x5_1 = some r) ∧ Aside0 (kq ≤ k) ∧ Aside0 (Below w.heap.size w w'))
   case atStart => exact ⟨(wrap64 (a1 - (l0.length : Int))), (0), sv, sv, H', nl, ⟨bw⟩⟩
   case round =>
    clear H'
    (try clear c3b0)
    obtain ⟨x1_1, x5_1, rfl, rfl, HA, HK1, HB⟩ := hrel
    rcases gk with _ | k1
    · exact absurd HA.out (by simp [laws_szSealS.l0])
    have H := HA.out
    clear HA
    simp only [laws_szSealS.l0] at H
    replace H := idd H; rcases H with ⟨c4b0, H⟩ | ⟨c4b0, H⟩
    · replace H := gd H; obtain ⟨c5b0, H⟩ := H
      replace H := bd H; obtain ⟨t552, A6, H⟩ := H
      replace H := idd H; rcases H with ⟨c7b0, H⟩ | ⟨c7b0, H⟩
      · obtain rfl := Option.some.inj H
        have p551 : 0 ≤ (x5_1 : Int) := oa
        have q551 : x5_1 < (l0.length : Int) := oa
        obtain ⟨ad551, A551_3, c551_3, e551, hx551_0, hx551_1, hx551_2, hx551_3, hl551_3, hi551_3⟩ := at_T29 HR0.out x5_1 p551 q551
        cases e551
        replace hx551_0 := hc HB hx551_0
        replace hx551_1 := hc HB hx551_1
        replace hx551_2 := hc HB hx551_2
        replace hx551_3 := hc HB hx551_3
        have HR551_3 := mk0 hi551_3
        have HC551_3 := mk0 hl551_3
        clear hi551_3 hl551_3
        replace p551 := eq_true p551
        replace q551 := eq_true q551
        go_wp2_with (first | ((with_reducible refine gC 13 (some 23) rfl rfl ?_); refine gB (some 23) Try.func13 #[.agg #[.int .i64 ((rd_T29 l0 x5_1).f0), .string ((rd_T29 l0 x5_1).f1), .string ((rd_T29 l0 x5_1).f2), .slice A551_3 ((rd_T29 l0 x5_1).f3).length c551_3], .int .i64 x1_1] (laws_szSeal.calls k1 ((rd_T29 l0 x5_1).f0) ((rd_T29 l0 x5_1).f1) ((rd_T29 l0 x5_1).f2) _ _ ((rd_T29 l0 x5_1).f3) x1_1 t552 _ (cc (Kd.C_below HR551_3.out HB.out)) HC551_3.out A6.out) ?_; intro w8 hb; replace HB := mk0 (below_step bw hb); clear hb))
        go_ret
        exact ⟨sw, bw⟩
      · have H' := mk0 H
        clear H
        have p551 : 0 ≤ (x5_1 : Int) := oa
        have q551 : x5_1 < (l0.length : Int) := oa
        obtain ⟨ad551, A551_3, c551_3, e551, hx551_0, hx551_1, hx551_2, hx551_3, hl551_3, hi551_3⟩ := at_T29 HR0.out x5_1 p551 q551
        cases e551
        replace hx551_0 := hc HB hx551_0
        replace hx551_1 := hc HB hx551_1
        replace hx551_2 := hc HB hx551_2
        replace hx551_3 := hc HB hx551_3
        have HR551_3 := mk0 hi551_3
        have HC551_3 := mk0 hl551_3
        clear hi551_3 hl551_3
        replace p551 := eq_true p551
        replace q551 := eq_true q551
        go_wp2_with (first | ((with_reducible refine gC 13 (some 23) rfl rfl ?_); refine gB (some 23) Try.func13 #[.agg #[.int .i64 ((rd_T29 l0 x5_1).f0), .string ((rd_T29 l0 x5_1).f1), .string ((rd_T29 l0 x5_1).f2), .slice A551_3 ((rd_T29 l0 x5_1).f3).length c551_3], .int .i64 x1_1] (laws_szSeal.calls k1 ((rd_T29 l0 x5_1).f0) ((rd_T29 l0 x5_1).f1) ((rd_T29 l0 x5_1).f2) _ _ ((rd_T29 l0 x5_1).f3) x1_1 t552 _ (cc (Kd.C_below HR551_3.out HB.out)) HC551_3.out A6.out) ?_; intro w9 hb; replace HB := mk0 (below_step bw hb); clear hb))
        go_roundg k1
        case measure => have := HK1.out; omega
        case rel => exact ⟨(t552), (wrap64 (x5_1 + 1)), sv, sv, H', hk1, ⟨bw⟩⟩
    · obtain rfl := Option.some.inj H
      go_wp2
      go_ret
      exact ⟨sw, bw⟩
/-! ### laws_toSealS: function 23 -/
def laws_toSealS.l0 : Nat → List (S29) → List (S32) → Int → Option ((List (S32)))
  | 0, _, _, _ => none
  | k + 1, x0, x3, x4 => if x4 < (x0.length : Int) then (if 0 ≤ x4 then ((laws_toSeal.f k ((rd_T29 x0 x4).f0) ((rd_T29 x0 x4).f1) ((rd_T29 x0 x4).f2) ((rd_T29 x0 x4).f3)).bind fun bt557 => (if x4 < (x3.length : Int) then (laws_toSealS.l0 k x0 (x3.set (x4 : Int).toNat (⟨bt557.1, bt557.2.1, bt557.2.2.1, bt557.2.2.2⟩ : S32)) (wrap64 (x4 + 1))) else (none))) else (none)) else (some x3)
def laws_toSealS.f (k : Nat) (l0 : List (S29)) : Option ((List (S32))) := if 0 ≤ (l0.length : Int) then (if ((l0.length : Int) : Int).toNat ≤ 4398046511104 then (laws_toSealS.l0 k l0 (List.replicate ((l0.length : Int) : Int).toNat z32) 0) else (none)) else (none)
theorem laws_toSealS.mono_l : ∀ k, (∀ y0 y1 y2, LeO (laws_toSealS.l0 k y0 y1 y2) (laws_toSealS.l0 (k + 1) y0 y1 y2))
  | 0 => fun _ _ _ r h => by simp [laws_toSealS.l0] at h
  | k + 1 => by
    have ih0 := laws_toSealS.mono_l k
    · intro y0 y1 y2
      unfold laws_toSealS.l0
      have m0 := @laws_toSeal.mono
      exact me
theorem laws_toSealS.mono : ∀ a0 k, LeO (laws_toSealS.f k a0) (laws_toSealS.f (k + 1) a0) := by
  intro a0 k
  have ih0 := laws_toSealS.mono_l k
  unfold laws_toSealS.f
  have m0 := @laws_toSeal.mono
  exact me
theorem laws_toSealS.calls (k : Nat) (A0 : Option Addr) (c0 : Nat) (l0 : List (S29)) (r : List (S32)) (w : World) (hr0 : Kd.C k29 w A0 l0.length l0) (hc0 : l0.length ≤ c0) (h : laws_toSealS.f k l0 = some r) :
    Calls Try.prog 23 #[.slice A0 l0.length c0] w fun e w' => ∃ v0_ : Value, e = .returned (v0_) ∧ Kd.S k32 32 w' w.heap.size (fun _ => True) v0_ r ∧ Below w.heap.size w w' := by
 have hu29 := Try.underlying29
 have hu32 := Try.underlying32
 have HR0 := mk0 hr0
 have HC0 := mk0 hc0
 clear hr0 hc0
 have HB := mk0 (Below.refl w.heap.size w)
 have H : (if 0 ≤ (l0.length : Int) then (if ((l0.length : Int) : Int).toNat ≤ 4398046511104 then (laws_toSealS.l0 k l0 (List.replicate ((l0.length : Int) : Int).toNat z32) 0) else (none)) else (none)) = some r := h
 clear h
 replace H := ge H; obtain ⟨c2b0, c2b1, H⟩ := H
 replace H := ge H; obtain ⟨c3b0, c3b1, H⟩ := H
 obtain ⟨y553, Ny553⟩ := nm (List.replicate ((l0.length : Int) : Int).toNat z32)
 rw [← Ny553.out] at H
 have H' := mk0 H
 clear H
 go_enter Try.func23, Try.ntmps23
 go_wp2_with (first | ((with_reducible refine gD 7 rfl ?_); refine Kd.S_make k32 _ 32 rfl (N := 7) rfl 38 _ _ rfl (l0.length : Int) rfl rfl Try.underlying38 (.agg #[(.int .i64 0), (.string ⟨#[]⟩), (.string ⟨#[]⟩), (.slice none 0 0)]) 64 info32 rfl (by decide) (by omega) z32 (ok := fun _ => True) (okp := fun _ => True) (k32_mkM _ _ _ z32 (Kd.R_nil _ _ _ _ _)) (fun _ hk => hk) trivial oa (Nat.le_trans (Nat.mul_le_mul_right _ (oa : (l0.length : Int).toNat ≤ 4398046511104)) (by omega)) (Below.refl _ _) (Nat.le_refl _) ?_; intro v554 w4 ho5 hb hg_ hnew_; clear hg_ hnew_; (first | rw [← Ny553.out] at ho5 | (simp only [Int.reduceToNat] at ho5; rw [← Ny553.out] at ho5)); have HO555 := mk0 (Kd.S_lower ho5 bs); replace HB := mk0 (below_step bw hb); clear hb ho5))
 go_loopg [4] k (fun kq v4 w' => ∃ (x3_1 : List (S32)) (x4_1 : Int), v4 = .int .i64 x4_1 ∧ Aside0 (laws_toSealS.l0 kq l0 x3_1 x4_1 = some r) ∧ Aside0 (kq ≤ k) ∧ Aside0 (Kd.S k32 32 w' w.heap.size (fun _ => True) v554 x3_1) ∧ Aside0 (Below w.heap.size w w'))
 case atStart => exact ⟨(y553), (0), sv, H', nl, ⟨rS HO555.out⟩, ⟨bw⟩⟩
 case round =>
  clear H'
  (try clear c2b0); (try clear c2b1); (try clear c3b0); (try clear c3b1)
  obtain ⟨x3_1, x4_1, rfl, HA, HK1, HO_3, HB⟩ := hrel
  rcases gk with _ | k1
  · exact absurd HA.out (by simp [laws_toSealS.l0])
  have H := HA.out
  clear HA
  simp only [laws_toSealS.l0] at H
  replace H := idd H; rcases H with ⟨c6b0, H⟩ | ⟨c6b0, H⟩
  · replace H := gd H; obtain ⟨c7b0, H⟩ := H
    replace H := bd H; obtain ⟨⟨t557, t558, t559, t560⟩, A8, H⟩ := H
    (try dsimp only at H)
    replace H := gd H; obtain ⟨c9b0, H⟩ := H
    obtain ⟨y563, Ny563⟩ := nm (x3_1.set (x4_1 : Int).toNat (⟨t557, t558, t559, t560⟩ : S32))
    rw [← Ny563.out] at H
    have H' := mk0 H
    clear H
    have p556 : 0 ≤ (x4_1 : Int) := oa
    have q556 : x4_1 < (l0.length : Int) := oa
    obtain ⟨ad556, A556_3, c556_3, e556, hx556_0, hx556_1, hx556_2, hx556_3, hl556_3, hi556_3⟩ := at_T29 HR0.out x4_1 p556 q556
    cases e556
    replace hx556_0 := hc HB hx556_0
    replace hx556_1 := hc HB hx556_1
    replace hx556_2 := hc HB hx556_2
    replace hx556_3 := hc HB hx556_3
    have HR556_3 := mk0 hi556_3
    have HC556_3 := mk0 hl556_3
    clear hi556_3 hl556_3
    replace p556 := eq_true p556
    replace q556 := eq_true q556
    go_wp2_with (first | ((with_reducible refine gC 15 (some 20) rfl rfl ?_); refine gR (some 20) Try.func15 #[.agg #[.int .i64 ((rd_T29 l0 x4_1).f0), .string ((rd_T29 l0 x4_1).f1), .string ((rd_T29 l0 x4_1).f2), .slice A556_3 ((rd_T29 l0 x4_1).f3).length c556_3]] (laws_toSeal.calls k1 ((rd_T29 l0 x4_1).f0) ((rd_T29 l0 x4_1).f1) ((rd_T29 l0 x4_1).f2) _ _ ((rd_T29 l0 x4_1).f3) t557 t558 t559 t560 _ (cc (Kd.C_below HR556_3.out HB.out)) HC556_3.out A8.out) ?_; intro v561 w11 ho0 hb; replace HO_3 := mk0 (Kd.S_elder' (rS HO_3.out) (Kd.R_base ho0) hb); have HO562 := mk0 (Kd.R_lower ho0 bs); replace HB := mk0 (below_step bw hb); clear hb ho0; have p10 : 0 ≤ (x4_1 : Int) := oa; have q10 : (x4_1 : Int) < ((x3_1.length : Int) : Int) := oa; obtain ⟨go10, co10, eo10, gb10, gl10, cl10, HG10⟩ := Kd.S_form HO_3.out (by omega); (first | cases eo10 | (injection eo10 with ea_ en_ ec_; (first | subst ea_ | (injection ea_ with ea_; subst ea_)); subst ec_; clear en_)); have GB10 := mk0 gb10; have GG10 := mk0 HG10; clear gb10 gl10 HG10; obtain ⟨_, ce10, hcl10, hM10, hcc10, hfr10, _, _⟩ := Kd.S_elem HO_3.out z32 (x4_1 : Int) p10 q10; obtain ⟨ve10_3, rfl, ge10_3⟩ := k32_openM hM10; have hx10_0 : w11.cell? ⟨go10, (x4_1 : Int).toNat * 4, none⟩ = some (.int .i64 ((rd_T32 x3_1 x4_1).f0)) := hcc10 0 _ rfl; have hx10_1 : w11.cell? ⟨go10, (x4_1 : Int).toNat * 4 + 1, none⟩ = some (.string ((rd_T32 x3_1 x4_1).f1)) := hcc10 1 _ rfl; have hx10_2 : w11.cell? ⟨go10, (x4_1 : Int).toNat * 4 + 2, none⟩ = some (.string ((rd_T32 x3_1 x4_1).f2)) := hcc10 2 _ rfl; have hx10_3 : w11.cell? ⟨go10, (x4_1 : Int).toNat * 4 + 3, none⟩ = some (ve10_3) := hcc10 3 _ rfl; have hf10_0 : w11.frozen? ⟨go10, (x4_1 : Int).toNat * 4, none⟩ = false := hfr10 0; have hf10_1 : w11.frozen? ⟨go10, (x4_1 : Int).toNat * 4 + 1, none⟩ = false := hfr10 1; have hf10_2 : w11.frozen? ⟨go10, (x4_1 : Int).toNat * 4 + 2, none⟩ = false := hfr10 2; have hf10_3 : w11.frozen? ⟨go10, (x4_1 : Int).toNat * 4 + 3, none⟩ = false := hfr10 3; clear hcl10 hcc10 hfr10 hM10; replace p10 := eq_true p10; replace q10 := eq_true q10; have n_ := mk0 (Kd.S_mono (ok' := (fun k_ => some k_ ≠ (v561 : Value).ownBlock)) HO_3.out (fun k_ hk => hk.2)); clear HO_3; have HO_3 := n_; clear n_; have HX12 := mk0 (show Kd.S k32 32 w11 w.heap.size (fun k_ => ((fun _ => True)) k_ ∧ ¬ ((fun k_ => some k_ = (v561 : Value).ownBlock)) k_) (.slice (some ⟨go10, 0, none⟩) x3_1.length co10) x3_1 from (by (with_reducible repeat (first | apply Kd.S_alloc | apply Kd.S_drewN | apply Kd.S_drew)); exact Kd.S_mono HO_3.out (fun k_ hk => ⟨trivial, fun e_ => hk e_⟩))); obtain ⟨oki12, ce12, hcl12, hM12, hcc12, hfr12, hoki12, hH12⟩ := Kd.S_elem HX12.out z32 (x4_1 : Int) oa (by have h_ : (x4_1 : Int) < ((x3_1.length : Int) : Int) := oa; first | exact h_ | (have e_ := (Kd.S_reads' HO_3.out).1; omega) | simpa using h_); obtain ⟨ve12_3, rfl, ge12_3⟩ := k32_openM hM12; have HP12 := Kd.S_seg hH12 oa (by have h_ : (x4_1 : Int) < ((x3_1.length : Int) : Int) := oa; first | exact h_ | (have e_ := (Kd.S_reads' HO_3.out).1; omega) | simpa using h_) (seg := [.int .i64 t557, .string t558, .string t559, v561]) (j := 0) (show 4 ≤ 4 from by decide) (x' := (⟨t557, t558, t559, t560⟩ : S32)) (k32_mkM _ _ _ (⟨t557, t558, t559, t560⟩ : S32) (Kd.R_mono (Kd.R_tight rfl (Kd.R_mono (ok' := fun k_ => ((fun _ => True)) k_ ∧ k_ ≠ go10) (Kd.R_apart' (HO562.out) (Kd.S_typed HO_3.out) (by decide)) (fun k_ hk => ⟨trivial, fun e_ => (hk.2) (by rw [e_]; rfl)⟩))) (fun _ h_ => Or.inr (h_)))) (fun _ hk => hk) (fun k_ hk_ => ((Kd.R_mono (ok' := fun k_ => ((fun _ => True)) k_ ∧ k_ ≠ go10) (Kd.R_apart' (HO562.out) (Kd.S_typed HO_3.out) (by decide)) (fun k_ hk => ⟨trivial, fun e_ => (hk.2) (by rw [e_]; rfl)⟩))).1 k_ hk_.symm); have hx12_0 := hcc12 0 _ rfl; (try simp only [show (k32).sz = 4 from rfl, Nat.mul_one, Nat.add_zero] at hx12_0); have hf12_0 := hfr12 0; (try simp only [show (k32).sz = 4 from rfl, Nat.mul_one, Nat.add_zero] at hf12_0); have hx12_1 := hcc12 1 _ rfl; (try simp only [show (k32).sz = 4 from rfl, Nat.mul_one, Nat.add_zero] at hx12_1); have hf12_1 := hfr12 1; (try simp only [show (k32).sz = 4 from rfl, Nat.mul_one, Nat.add_zero] at hf12_1); have hx12_2 := hcc12 2 _ rfl; (try simp only [show (k32).sz = 4 from rfl, Nat.mul_one, Nat.add_zero] at hx12_2); have hf12_2 := hfr12 2; (try simp only [show (k32).sz = 4 from rfl, Nat.mul_one, Nat.add_zero] at hf12_2); have hx12_3 := hcc12 3 _ rfl; (try simp only [show (k32).sz = 4 from rfl, Nat.mul_one, Nat.add_zero] at hx12_3); have hf12_3 := hfr12 3; (try simp only [show (k32).sz = 4 from rfl, Nat.mul_one, Nat.add_zero] at hf12_3); clear hcl12 hcc12 hfr12 hM12 hoki12 hH12) | ((with_reducible refine gate_store (t := 32) (p := 21) rfl ?_); refine store_event (t := 32) (p := 21) (v := ?vo_w13) (w1 := ((((w11.setCell ⟨go10, (x4_1 : Int).toNat * 4, none⟩ (.int .i64 t557)).setCell ⟨go10, (x4_1 : Int).toNat * 4 + 1, none⟩ (.string t558)).setCell ⟨go10, (x4_1 : Int).toNat * 4 + 2, none⟩ (.string t559)).setCell ⟨go10, (x4_1 : Int).toNat * 4 + 3, none⟩ (v561))) ?hg ?ho ?hn ?hr ?_; (case ho => rfl); (case hg => rfl); (case hn => rfl); (case hr => first | (go_simp; done) | (go_simp; rfl) | (obtain ⟨Av561_, cv561_, ev561_⟩ := Kd.R_slice HO562.out; subst ev561_; go_simp; done) | (obtain ⟨Av561_, cv561_, ev561_⟩ := Kd.R_slice HO562.out; subst ev561_; go_simp; rfl)); intro w13 hw; have hg : w11.grownBy w13 (some go10) := (by rw [hw]; exact HP12.2); have hp_ : Kd.S k32 32 w13 w.heap.size (fun _ => True) (.slice (some ⟨go10, 0, none⟩) x3_1.length co10) y563 := (by rw [hw, Ny563.out]; exact HP12.1); clear HP12; replace HO_3 := mk0 (hp_); replace HB := mk0 ((by rw [hw]; exact below_set (below_set (below_set (below_set (HB.out) GB10.out) GB10.out) GB10.out) GB10.out : Below w.heap.size w w13)); clear HO562; clear hg hw hp_))
    go_roundg k1
    case measure => have := HK1.out; omega
    case rel => exact ⟨(y563), (wrap64 (x4_1 + 1)), sv, H', hk1, ⟨rS HO_3.out⟩, ⟨bw⟩⟩
  · obtain rfl := Option.some.inj H
    go_wp2
    go_ret
    exact ⟨_, sw, rS HO_3.out, bw⟩
/-! ### laws_eqSealS: function 24 -/
def laws_eqSealS.l0 : Nat → List (S32) → List (S32) → Int → Option (Bool)
  | 0, _, _, _ => none
  | k + 1, x0, x1, x5 => if x5 < (x0.length : Int) then (if 0 ≤ x5 then (if x5 < (x1.length : Int) then ((laws_eqSeal.f k ((rd_T32 x0 x5).f0) ((rd_T32 x0 x5).f1) ((rd_T32 x0 x5).f2) ((rd_T32 x0 x5).f3) ((rd_T32 x1 x5).f0) ((rd_T32 x1 x5).f1) ((rd_T32 x1 x5).f2) ((rd_T32 x1 x5).f3)).bind fun t566 => (if t566 = true then (laws_eqSealS.l0 k x0 x1 (wrap64 (x5 + 1))) else (some false))) else (none)) else (none)) else (some true)
def laws_eqSealS.f (k : Nat) (l0 : List (S32)) (l1 : List (S32)) : Option (Bool) := if (l0.length : Int) = (l1.length : Int) then (laws_eqSealS.l0 k l0 l1 0) else (some false)
theorem laws_eqSealS.mono_l : ∀ k, (∀ y0 y1 y2, LeO (laws_eqSealS.l0 k y0 y1 y2) (laws_eqSealS.l0 (k + 1) y0 y1 y2))
  | 0 => fun _ _ _ r h => by simp [laws_eqSealS.l0] at h
  | k + 1 => by
    have ih0 := laws_eqSealS.mono_l k
    · intro y0 y1 y2
      unfold laws_eqSealS.l0
      have m0 := @laws_eqSeal.mono
      exact me
theorem laws_eqSealS.mono : ∀ a0 a1 k, LeO (laws_eqSealS.f k a0 a1) (laws_eqSealS.f (k + 1) a0 a1) := by
  intro a0 a1 k
  have ih0 := laws_eqSealS.mono_l k
  unfold laws_eqSealS.f
  have m0 := @laws_eqSeal.mono
  exact me
def laws_eqSealS.T6 : Bool × List (List Nat × List Nat) := (true, [([], []), ([], []), ([0, 1], [0, 1]), ([2], [2]), ([], []), ([], []), ([4, 5], [4, 5]), ([6], [6]), ([3, 7], [3, 7]), ([8], [8])])
def laws_eqSealS.B6 : List Nat := [0, 0, 3, 7, 0, 0, 48, 112, 255, 511]
theorem laws_eqSealS.tab6 : rtab .any (opsOf Try.f24 6) = laws_eqSealS.T6 := by kernel_rfl
theorem laws_eqSealS.bits6 : waitsOk laws_eqSealS.T6.2 laws_eqSealS.B6 = true := by kernel_rfl
theorem laws_eqSealS.calls (k : Nat) (A0 : Option Addr) (c0 : Nat) (l0 : List (S32)) (A1 : Option Addr) (c1 : Nat) (l1 : List (S32)) (r : Bool) (w : World) (hr0 : Kd.C k32 w A0 l0.length l0) (hc0 : l0.length ≤ c0) (hr1 : Kd.C k32 w A1 l1.length l1) (hc1 : l1.length ≤ c1) (h : laws_eqSealS.f k l0 l1 = some r) :
    Calls Try.prog 24 #[.slice A0 l0.length c0, .slice A1 l1.length c1] w fun e w' => e = .returned (.bool r) ∧ Below w.heap.size w w' := by
 have hu32 := Try.underlying32
 have HR0 := mk0 hr0
 have HC0 := mk0 hc0
 clear hr0 hc0
 have HR1 := mk0 hr1
 have HC1 := mk0 hc1
 clear hr1 hc1
 have HB := mk0 (Below.refl w.heap.size w)
 have H : (if (l0.length : Int) = (l1.length : Int) then (laws_eqSealS.l0 k l0 l1 0) else (some false)) = some r := h
 clear h
 replace H := ip H; rcases H with ⟨c3, H⟩ | ⟨c3, H⟩
 · have c3b0 : ((l0.length : Int) == (l1.length : Int)) = true := beq_iff_eq.mpr c3
   have c3b1 : ((l0.length : Int) != (l1.length : Int)) = false := bne_eq_false_iff_eq.mpr c3
   have c3b2 : (l0.length == l1.length) = true := by first | simpa using c3 | (simp at c3 ⊢; omega)
   clear c3
   have H' := mk0 H
   clear H
   go_enter Try.func24, Try.ntmps24
   go_wp2
   go_loopg [5] k (fun kq v5 w' => ∃ (x5_1 : Int), v5 = .int .i64 x5_1 ∧ Aside0 (laws_eqSealS.l0 kq l0 l1 x5_1 = some r) ∧ Aside0 (kq ≤ k) ∧ Aside0 (Below w.heap.size w w'))
   case atStart => exact ⟨(0), sv, H', nl, ⟨bw⟩⟩
   case round =>
    clear H'
    (try clear c3); (try clear c3b0); (try clear c3b1); (try clear c3b2)
    obtain ⟨x5_1, rfl, HA, HK1, HB⟩ := hrel
    rcases gk with _ | k1
    · exact absurd HA.out (by simp [laws_eqSealS.l0])
    have H := HA.out
    clear HA
    simp only [laws_eqSealS.l0] at H
    replace H := idd H; rcases H with ⟨c4b0, H⟩ | ⟨c4b0, H⟩
    · replace H := gd H; obtain ⟨c5b0, H⟩ := H
      replace H := gd H; obtain ⟨c6b0, H⟩ := H
      replace H := bd H; obtain ⟨t566, A7, H⟩ := H
      rcases ib t566 with rfl | rfl
      · replace H := jt H
        have H' := mk0 H
        clear H
        try go_wp2
        replace HB := mk0 (below_drew1 HB.out)
        have p564 : 0 ≤ (x5_1 : Int) := oa
        have q564 : x5_1 < (l0.length : Int) := oa
        obtain ⟨ad564, A564_3, c564_3, e564, hx564_0, hx564_1, hx564_2, hx564_3, hl564_3, hi564_3⟩ := at_T32 HR0.out x5_1 p564 q564
        have hw564_3 := hx564_3
        have hw564_2 := hx564_2
        have hw564_1 := hx564_1
        have hw564_0 := hx564_0
        cases e564
        replace hx564_0 := hc HB hx564_0
        replace hx564_1 := hc HB hx564_1
        replace hx564_2 := hc HB hx564_2
        replace hx564_3 := hc HB hx564_3
        have HR564_3 := mk0 hi564_3
        have HC564_3 := mk0 hl564_3
        clear hi564_3 hl564_3
        replace p564 := eq_true p564
        replace q564 := eq_true q564
        have p565 : 0 ≤ (x5_1 : Int) := oa
        have q565 : x5_1 < (l1.length : Int) := oa
        obtain ⟨ad565, A565_3, c565_3, e565, hx565_0, hx565_1, hx565_2, hx565_3, hl565_3, hi565_3⟩ := at_T32 HR1.out x5_1 p565 q565
        have hw565_3 := hx565_3
        have hw565_2 := hx565_2
        have hw565_1 := hx565_1
        have hw565_0 := hx565_0
        cases e565
        replace hx565_0 := hc HB hx565_0
        replace hx565_1 := hc HB hx565_1
        replace hx565_2 := hc HB hx565_2
        replace hx565_3 := hc HB hx565_3
        have HR565_3 := mk0 hi565_3
        have HC565_3 := mk0 hl565_3
        clear hi565_3 hl565_3
        replace p565 := eq_true p565
        replace q565 := eq_true q565
        refine st 10 laws_eqSealS.tab6 laws_eqSealS.bits6 (c_ (hc HB hw564_0) (c_ (hc HB hw564_1) (c_ (hc HB hw564_2) (c_ (hc HB hw564_3) (c_ (hc HB hw565_0) (c_ (hc HB hw565_1) (c_ (hc HB hw565_2) (c_ (hc HB hw565_3) n_)))))))) (fun hHeld HT_ HW_ => ?_)
        generalize wr.drew = w9 at HB HR564_3 HR565_3 hx564_0 hx564_1 hx564_2 hx564_3 hx565_0 hx565_1 hx565_2 hx565_3 hHeld ⊢
        refine pu 0 (some 17) HT_ ?_
        refine pu 1 (some 18) HT_ ?_
        refine pu 2 (some 19) HT_ ?_
        refine pu 4 (some 21) HT_ ?_
        refine pu 5 (some 22) HT_ ?_
        refine pu 6 (some 23) HT_ ?_
        refine tk 3 (some 20) HT_ HW_ hHeld ?_
        refine tk 7 (some 24) HT_ HW_ hHeld ?_
        refine on 8 (some 25) HT_ (fun K hK => ?_)
        refine oB Try.func17 #[.agg #[.int .i64 ((rd_T32 l0 x5_1).f0), .string ((rd_T32 l0 x5_1).f1), .string ((rd_T32 l0 x5_1).f2), .slice A564_3 ((rd_T32 l0 x5_1).f3).length c564_3], .agg #[.int .i64 ((rd_T32 l1 x5_1).f0), .string ((rd_T32 l1 x5_1).f1), .string ((rd_T32 l1 x5_1).f2), .slice A565_3 ((rd_T32 l1 x5_1).f3).length c565_3]] (laws_eqSeal.calls k1 ((rd_T32 l0 x5_1).f0) ((rd_T32 l0 x5_1).f1) ((rd_T32 l0 x5_1).f2) _ _ ((rd_T32 l0 x5_1).f3) ((rd_T32 l1 x5_1).f0) ((rd_T32 l1 x5_1).f1) ((rd_T32 l1 x5_1).f2) _ _ ((rd_T32 l1 x5_1).f3) true _ (cc (Kd.C_below HR564_3.out HB.out)) HC564_3.out (cc (Kd.C_below HR565_3.out HB.out)) HC565_3.out A7.out) ?_
        intro w10 hb
        replace HB := mk0 (below_step bw hb)
        (try clear hb)
        refine hK.out _ _ ah (fun hHeld => ?_)
        clear hK K
        refine nr (some 25) ?_
        refine pu 9 (some 26) HT_ ?_
        refine dn HT_ ?_
        try go_wp2
        go_roundg k1
        case measure => have := HK1.out; omega
        case rel => exact ⟨(wrap64 (x5_1 + 1)), sv, H', hk1, ⟨bw⟩⟩
      · replace H := jf H
        obtain rfl := Option.some.inj H
        try go_wp2
        replace HB := mk0 (below_drew1 HB.out)
        have p564 : 0 ≤ (x5_1 : Int) := oa
        have q564 : x5_1 < (l0.length : Int) := oa
        obtain ⟨ad564, A564_3, c564_3, e564, hx564_0, hx564_1, hx564_2, hx564_3, hl564_3, hi564_3⟩ := at_T32 HR0.out x5_1 p564 q564
        have hw564_3 := hx564_3
        have hw564_2 := hx564_2
        have hw564_1 := hx564_1
        have hw564_0 := hx564_0
        cases e564
        replace hx564_0 := hc HB hx564_0
        replace hx564_1 := hc HB hx564_1
        replace hx564_2 := hc HB hx564_2
        replace hx564_3 := hc HB hx564_3
        have HR564_3 := mk0 hi564_3
        have HC564_3 := mk0 hl564_3
        clear hi564_3 hl564_3
        replace p564 := eq_true p564
        replace q564 := eq_true q564
        have p565 : 0 ≤ (x5_1 : Int) := oa
        have q565 : x5_1 < (l1.length : Int) := oa
        obtain ⟨ad565, A565_3, c565_3, e565, hx565_0, hx565_1, hx565_2, hx565_3, hl565_3, hi565_3⟩ := at_T32 HR1.out x5_1 p565 q565
        have hw565_3 := hx565_3
        have hw565_2 := hx565_2
        have hw565_1 := hx565_1
        have hw565_0 := hx565_0
        cases e565
        replace hx565_0 := hc HB hx565_0
        replace hx565_1 := hc HB hx565_1
        replace hx565_2 := hc HB hx565_2
        replace hx565_3 := hc HB hx565_3
        have HR565_3 := mk0 hi565_3
        have HC565_3 := mk0 hl565_3
        clear hi565_3 hl565_3
        replace p565 := eq_true p565
        replace q565 := eq_true q565
        refine st 10 laws_eqSealS.tab6 laws_eqSealS.bits6 (c_ (hc HB hw564_0) (c_ (hc HB hw564_1) (c_ (hc HB hw564_2) (c_ (hc HB hw564_3) (c_ (hc HB hw565_0) (c_ (hc HB hw565_1) (c_ (hc HB hw565_2) (c_ (hc HB hw565_3) n_)))))))) (fun hHeld HT_ HW_ => ?_)
        generalize wr.drew = w11 at HB HR564_3 HR565_3 hx564_0 hx564_1 hx564_2 hx564_3 hx565_0 hx565_1 hx565_2 hx565_3 hHeld ⊢
        refine pu 0 (some 17) HT_ ?_
        refine pu 1 (some 18) HT_ ?_
        refine pu 2 (some 19) HT_ ?_
        refine pu 4 (some 21) HT_ ?_
        refine pu 5 (some 22) HT_ ?_
        refine pu 6 (some 23) HT_ ?_
        refine tk 3 (some 20) HT_ HW_ hHeld ?_
        refine tk 7 (some 24) HT_ HW_ hHeld ?_
        refine on 8 (some 25) HT_ (fun K hK => ?_)
        refine oB Try.func17 #[.agg #[.int .i64 ((rd_T32 l0 x5_1).f0), .string ((rd_T32 l0 x5_1).f1), .string ((rd_T32 l0 x5_1).f2), .slice A564_3 ((rd_T32 l0 x5_1).f3).length c564_3], .agg #[.int .i64 ((rd_T32 l1 x5_1).f0), .string ((rd_T32 l1 x5_1).f1), .string ((rd_T32 l1 x5_1).f2), .slice A565_3 ((rd_T32 l1 x5_1).f3).length c565_3]] (laws_eqSeal.calls k1 ((rd_T32 l0 x5_1).f0) ((rd_T32 l0 x5_1).f1) ((rd_T32 l0 x5_1).f2) _ _ ((rd_T32 l0 x5_1).f3) ((rd_T32 l1 x5_1).f0) ((rd_T32 l1 x5_1).f1) ((rd_T32 l1 x5_1).f2) _ _ ((rd_T32 l1 x5_1).f3) false _ (cc (Kd.C_below HR564_3.out HB.out)) HC564_3.out (cc (Kd.C_below HR565_3.out HB.out)) HC565_3.out A7.out) ?_
        intro w12 hb
        replace HB := mk0 (below_step bw hb)
        (try clear hb)
        refine hK.out _ _ ah (fun hHeld => ?_)
        clear hK K
        refine nr (some 25) ?_
        refine pu 9 (some 26) HT_ ?_
        refine dn HT_ ?_
        try go_wp2
        go_ret
        exact ⟨sw, bw⟩
    · obtain rfl := Option.some.inj H
      go_wp2
      go_ret
      exact ⟨sw, bw⟩
 · have c3b0 : ((l0.length : Int) == (l1.length : Int)) = false := beq_eq_false_iff_ne.mpr c3
   have c3b1 : ((l0.length : Int) != (l1.length : Int)) = true := bne_iff_ne.mpr c3
   have c3b2 : (l0.length == l1.length) = false := by first | simpa using c3 | (simp at c3 ⊢; omega)
   obtain rfl := Option.some.inj H
   go_enter Try.func24, Try.ntmps24
   go_wp2
   go_ret
   exact ⟨sw, bw⟩
/-! ### laws_FnExactChainOk: function 6 -/
def laws_FnExactChainOk.f (k : Nat) (l0 : List (S29)) : Option (Bool) := (laws_szSealS.f k l0 1048576).bind fun t567 => (if t567 < 0 then (some true) else ((laws_toSealS.f k l0).bind fun t568 => ((spec_ChainOk.f k t568).bind fun t571 => ((laws_toSealS.f k l0).bind fun t572 => ((impl_ChainOk.f k t572).bind fun t575 => (if (t575 != t571) = true then (some false) else ((laws_toSealS.f k l0).bind fun t576 => ((laws_eqSealS.f k t572 t576).bind fun t579 => (if t579 = true then (some true) else (some false))))))))))
theorem laws_FnExactChainOk.mono : ∀ a0 k, LeO (laws_FnExactChainOk.f k a0) (laws_FnExactChainOk.f (k + 1) a0) := by
  intro a0 k
  unfold laws_FnExactChainOk.f
  have m0 := @impl_ChainOk.mono
  have m1 := @laws_eqSealS.mono
  have m2 := @laws_szSealS.mono
  have m3 := @laws_toSealS.mono
  have m4 := @spec_ChainOk.mono
  exact me
theorem laws_FnExactChainOk.calls (k : Nat) (A0 : Option Addr) (c0 : Nat) (l0 : List (S29)) (r : Bool) (w : World) (hr0 : Kd.C k29 w A0 l0.length l0) (hc0 : l0.length ≤ c0) (h : laws_FnExactChainOk.f k l0 = some r) :
    Calls Try.prog 6 #[.slice A0 l0.length c0] w fun e w' => e = .returned (.bool r) ∧ Below w.heap.size w w' := by
 have HR0 := mk0 hr0
 have HC0 := mk0 hc0
 clear hr0 hc0
 have HB := mk0 (Below.refl w.heap.size w)
 have H : ((laws_szSealS.f k l0 1048576).bind fun t567 => (if t567 < 0 then (some true) else ((laws_toSealS.f k l0).bind fun t568 => ((spec_ChainOk.f k t568).bind fun t571 => ((laws_toSealS.f k l0).bind fun t572 => ((impl_ChainOk.f k t572).bind fun t575 => (if (t575 != t571) = true then (some false) else ((laws_toSealS.f k l0).bind fun t576 => ((laws_eqSealS.f k t572 t576).bind fun t579 => (if t579 = true then (some true) else (some false))))))))))) = some r := h
 clear h
 replace H := bd H; obtain ⟨t567, A2, H⟩ := H
 replace H := idd H; rcases H with ⟨c3b0, H⟩ | ⟨c3b0, H⟩
 · obtain rfl := Option.some.inj H
   go_enter Try.func6, Try.ntmps6
   go_wp2_with (first | ((with_reducible refine gC 22 (some 9) rfl rfl ?_); refine gB (some 9) Try.func22 #[.slice A0 l0.length c0, .int .i64 1048576] (laws_szSealS.calls k _ _ l0 1048576 t567 _ (cc HR0.out) HC0.out A2.out) ?_; intro w4 hb; replace HB := mk0 (below_step bw hb); clear hb))
   go_ret
   exact ⟨sw, bw⟩
 · replace H := bd H; obtain ⟨t568, A5, H⟩ := H
   replace H := bd H; obtain ⟨t571, A6, H⟩ := H
   replace H := bd H; obtain ⟨t572, A7, H⟩ := H
   replace H := bd H; obtain ⟨t575, A8, H⟩ := H
   replace H := ip H; rcases H with ⟨c9, H⟩ | ⟨c9, H⟩
   · have c9b0 : (t575 != t571) = true := c9
     (try (have c9b1 : decide (t575 = t571) = false := by simpa using c9))
     (try (have c9b2 : (t575 == t571) = false := by simpa using c9))
     (try (have c9b3 : ¬ (t575 = t571) := by simpa using c9))
     clear c9
     obtain rfl := Option.some.inj H
     go_enter Try.func6, Try.ntmps6
     go_wp2_with (first | ((with_reducible refine gC 22 (some 9) rfl rfl ?_); refine gB (some 9) Try.func22 #[.slice A0 l0.length c0, .int .i64 1048576] (laws_szSealS.calls k _ _ l0 1048576 t567 _ (cc HR0.out) HC0.out A2.out) ?_; intro w10 hb; replace HB := mk0 (below_step bw hb); clear hb) | ((with_reducible refine gC 23 (some 13) rfl rfl ?_); refine gR (some 13) Try.func23 #[.slice A0 l0.length c0] (laws_toSealS.calls k _ _ l0 t568 _ (cc (Kd.C_below HR0.out HB.out)) HC0.out A5.out) ?_; intro v569 w11 ho0 hb; have HO570 := mk0 (Kd.S_lower ho0 bs); replace HB := mk0 (below_step bw hb); clear hb ho0; obtain ⟨Ao12, co12, eo12⟩ := Kd.S_slice HO570.out; subst eo12) | ((with_reducible refine gC 21 (some 14) rfl rfl ?_); refine gB (some 14) Try.func21 #[.slice Ao12 t568.length co12] (spec_ChainOk.calls k _ _ t568 t571 _ (cc ((Kd.S_reads' HO570.out).2.2)) ((Kd.S_reads' HO570.out).2.1) A6.out) ?_; intro w13 hb; replace HO570 := mk0 (Kd.S_below (rS HO570.out) hb); replace HB := mk0 (below_step bw hb); clear hb) | ((with_reducible refine gC 23 (some 16) rfl rfl ?_); refine gR (some 16) Try.func23 #[.slice A0 l0.length c0] (laws_toSealS.calls k _ _ l0 t572 _ (cc (Kd.C_below HR0.out HB.out)) HC0.out A7.out) ?_; intro v573 w14 ho0 hb; have HO574 := mk0 (Kd.S_lower (Kd.S_new' ho0 (Kd.S_lt (rS HO570.out))) bs); replace HO570 := mk0 (Kd.S_elder' (rS HO570.out) (Kd.S_base ho0) hb); replace HB := mk0 (below_step bw hb); clear hb ho0; obtain ⟨Ao15, co15, eo15⟩ := Kd.S_slice HO574.out; subst eo15) | ((with_reducible refine gC 20 (some 18) rfl rfl ?_); refine gB (some 18) Try.func20 #[.slice Ao15 t572.length co15] (impl_ChainOk.calls k _ _ t572 t575 _ (cc ((Kd.S_reads' HO574.out).2.2)) ((Kd.S_reads' HO574.out).2.1) A8.out) ?_; intro w16 hb; replace HO570 := mk0 (Kd.S_below (rS HO570.out) hb); replace HO574 := mk0 (Kd.S_below (rS HO574.out) hb); replace HB := mk0 (below_step bw hb); clear hb))
     go_ret
     exact ⟨sw, bw⟩
   · have c9b0 : (t575 != t571) = false := by simpa using c9
     (try (have c9b1 : decide (t575 = t571) = true := by simpa using c9))
     (try (have c9b2 : (t575 == t571) = true := by simpa using c9))
     clear c9
     replace H := bd H; obtain ⟨t576, A17, H⟩ := H
     replace H := bd H; obtain ⟨t579, A18, H⟩ := H
     rcases ib t579 with rfl | rfl
     · replace H := jt H
       obtain rfl := Option.some.inj H
       go_enter Try.func6, Try.ntmps6
       go_wp2_with (first | ((with_reducible refine gC 22 (some 9) rfl rfl ?_); refine gB (some 9) Try.func22 #[.slice A0 l0.length c0, .int .i64 1048576] (laws_szSealS.calls k _ _ l0 1048576 t567 _ (cc HR0.out) HC0.out A2.out) ?_; intro w20 hb; replace HB := mk0 (below_step bw hb); clear hb) | ((with_reducible refine gC 23 (some 13) rfl rfl ?_); refine gR (some 13) Try.func23 #[.slice A0 l0.length c0] (laws_toSealS.calls k _ _ l0 t568 _ (cc (Kd.C_below HR0.out HB.out)) HC0.out A5.out) ?_; intro v569 w21 ho0 hb; have HO570 := mk0 (Kd.S_lower ho0 bs); replace HB := mk0 (below_step bw hb); clear hb ho0; obtain ⟨Ao22, co22, eo22⟩ := Kd.S_slice HO570.out; subst eo22) | ((with_reducible refine gC 21 (some 14) rfl rfl ?_); refine gB (some 14) Try.func21 #[.slice Ao22 t568.length co22] (spec_ChainOk.calls k _ _ t568 t571 _ (cc ((Kd.S_reads' HO570.out).2.2)) ((Kd.S_reads' HO570.out).2.1) A6.out) ?_; intro w23 hb; replace HO570 := mk0 (Kd.S_below (rS HO570.out) hb); replace HB := mk0 (below_step bw hb); clear hb) | ((with_reducible refine gC 23 (some 16) rfl rfl ?_); refine gR (some 16) Try.func23 #[.slice A0 l0.length c0] (laws_toSealS.calls k _ _ l0 t572 _ (cc (Kd.C_below HR0.out HB.out)) HC0.out A7.out) ?_; intro v573 w24 ho0 hb; have HO574 := mk0 (Kd.S_lower (Kd.S_new' ho0 (Kd.S_lt (rS HO570.out))) bs); replace HO570 := mk0 (Kd.S_elder' (rS HO570.out) (Kd.S_base ho0) hb); replace HB := mk0 (below_step bw hb); clear hb ho0; obtain ⟨Ao25, co25, eo25⟩ := Kd.S_slice HO574.out; subst eo25) | ((with_reducible refine gC 20 (some 18) rfl rfl ?_); refine gB (some 18) Try.func20 #[.slice Ao25 t572.length co25] (impl_ChainOk.calls k _ _ t572 t575 _ (cc ((Kd.S_reads' HO574.out).2.2)) ((Kd.S_reads' HO574.out).2.1) A8.out) ?_; intro w26 hb; replace HO570 := mk0 (Kd.S_below (rS HO570.out) hb); replace HO574 := mk0 (Kd.S_below (rS HO574.out) hb); replace HB := mk0 (below_step bw hb); clear hb) | ((with_reducible refine gC 23 (some 24) rfl rfl ?_); refine gR (some 24) Try.func23 #[.slice A0 l0.length c0] (laws_toSealS.calls k _ _ l0 t576 _ (cc (Kd.C_below HR0.out HB.out)) HC0.out A17.out) ?_; intro v577 w27 ho0 hb; have HO578 := mk0 (Kd.S_lower (Kd.S_new' (Kd.S_new' ho0 (Kd.S_lt (rS HO570.out))) (Kd.S_lt (rS HO574.out))) bs); replace HO570 := mk0 (Kd.S_elder' (rS HO570.out) (Kd.S_base ho0) hb); replace HO574 := mk0 (Kd.S_elder' (rS HO574.out) (Kd.S_base ho0) hb); replace HB := mk0 (below_step bw hb); clear hb ho0; obtain ⟨Ao28, co28, eo28⟩ := Kd.S_slice HO578.out; subst eo28) | ((with_reducible refine gC 24 (some 25) rfl rfl ?_); refine gB (some 25) Try.func24 #[.slice Ao25 t572.length co25, .slice Ao28 t576.length co28] (laws_eqSealS.calls k _ _ t572 _ _ t576 true _ (cc ((Kd.S_reads' HO574.out).2.2)) ((Kd.S_reads' HO574.out).2.1) (cc ((Kd.S_reads' HO578.out).2.2)) ((Kd.S_reads' HO578.out).2.1) A18.out) ?_; intro w29 hb; replace HO570 := mk0 (Kd.S_below (rS HO570.out) hb); replace HO574 := mk0 (Kd.S_below (rS HO574.out) hb); replace HO578 := mk0 (Kd.S_below (rS HO578.out) hb); replace HB := mk0 (below_step bw hb); clear hb))
       go_ret
       exact ⟨sw, bw⟩
     · replace H := jf H
       obtain rfl := Option.some.inj H
       go_enter Try.func6, Try.ntmps6
       go_wp2_with (first | ((with_reducible refine gC 22 (some 9) rfl rfl ?_); refine gB (some 9) Try.func22 #[.slice A0 l0.length c0, .int .i64 1048576] (laws_szSealS.calls k _ _ l0 1048576 t567 _ (cc HR0.out) HC0.out A2.out) ?_; intro w30 hb; replace HB := mk0 (below_step bw hb); clear hb) | ((with_reducible refine gC 23 (some 13) rfl rfl ?_); refine gR (some 13) Try.func23 #[.slice A0 l0.length c0] (laws_toSealS.calls k _ _ l0 t568 _ (cc (Kd.C_below HR0.out HB.out)) HC0.out A5.out) ?_; intro v569 w31 ho0 hb; have HO570 := mk0 (Kd.S_lower ho0 bs); replace HB := mk0 (below_step bw hb); clear hb ho0; obtain ⟨Ao32, co32, eo32⟩ := Kd.S_slice HO570.out; subst eo32) | ((with_reducible refine gC 21 (some 14) rfl rfl ?_); refine gB (some 14) Try.func21 #[.slice Ao32 t568.length co32] (spec_ChainOk.calls k _ _ t568 t571 _ (cc ((Kd.S_reads' HO570.out).2.2)) ((Kd.S_reads' HO570.out).2.1) A6.out) ?_; intro w33 hb; replace HO570 := mk0 (Kd.S_below (rS HO570.out) hb); replace HB := mk0 (below_step bw hb); clear hb) | ((with_reducible refine gC 23 (some 16) rfl rfl ?_); refine gR (some 16) Try.func23 #[.slice A0 l0.length c0] (laws_toSealS.calls k _ _ l0 t572 _ (cc (Kd.C_below HR0.out HB.out)) HC0.out A7.out) ?_; intro v573 w34 ho0 hb; have HO574 := mk0 (Kd.S_lower (Kd.S_new' ho0 (Kd.S_lt (rS HO570.out))) bs); replace HO570 := mk0 (Kd.S_elder' (rS HO570.out) (Kd.S_base ho0) hb); replace HB := mk0 (below_step bw hb); clear hb ho0; obtain ⟨Ao35, co35, eo35⟩ := Kd.S_slice HO574.out; subst eo35) | ((with_reducible refine gC 20 (some 18) rfl rfl ?_); refine gB (some 18) Try.func20 #[.slice Ao35 t572.length co35] (impl_ChainOk.calls k _ _ t572 t575 _ (cc ((Kd.S_reads' HO574.out).2.2)) ((Kd.S_reads' HO574.out).2.1) A8.out) ?_; intro w36 hb; replace HO570 := mk0 (Kd.S_below (rS HO570.out) hb); replace HO574 := mk0 (Kd.S_below (rS HO574.out) hb); replace HB := mk0 (below_step bw hb); clear hb) | ((with_reducible refine gC 23 (some 24) rfl rfl ?_); refine gR (some 24) Try.func23 #[.slice A0 l0.length c0] (laws_toSealS.calls k _ _ l0 t576 _ (cc (Kd.C_below HR0.out HB.out)) HC0.out A17.out) ?_; intro v577 w37 ho0 hb; have HO578 := mk0 (Kd.S_lower (Kd.S_new' (Kd.S_new' ho0 (Kd.S_lt (rS HO570.out))) (Kd.S_lt (rS HO574.out))) bs); replace HO570 := mk0 (Kd.S_elder' (rS HO570.out) (Kd.S_base ho0) hb); replace HO574 := mk0 (Kd.S_elder' (rS HO574.out) (Kd.S_base ho0) hb); replace HB := mk0 (below_step bw hb); clear hb ho0; obtain ⟨Ao38, co38, eo38⟩ := Kd.S_slice HO578.out; subst eo38) | ((with_reducible refine gC 24 (some 25) rfl rfl ?_); refine gB (some 25) Try.func24 #[.slice Ao35 t572.length co35, .slice Ao38 t576.length co38] (laws_eqSealS.calls k _ _ t572 _ _ t576 false _ (cc ((Kd.S_reads' HO574.out).2.2)) ((Kd.S_reads' HO574.out).2.1) (cc ((Kd.S_reads' HO578.out).2.2)) ((Kd.S_reads' HO578.out).2.1) A18.out) ?_; intro w39 hb; replace HO570 := mk0 (Kd.S_below (rS HO570.out) hb); replace HO574 := mk0 (Kd.S_below (rS HO574.out) hb); replace HO578 := mk0 (Kd.S_below (rS HO578.out) hb); replace HB := mk0 (below_step bw hb); clear hb))
       go_ret
       exact ⟨sw, bw⟩
end Go.Proofs.Ytlekeiokdmnboaa.Pa
end

section
/- The law of ChainOk is true at every input; plain Lean over the printed functions. -/
namespace Go.Proofs.Ytlekeiokdmnboaa.Pu
open Go Go.RowKit Go.Proofs.YtlekeiokdmnboaaW.PrintWords Go.Proofs.YtlekeiokdmnboaaW.PrintLast Go.Proofs.YtlekeiokdmnboaaW.PrintMore Go.Proofs.Ytlekeiokdmnboaa.Pa
set_option linter.unusedVariables false

/-- A seal as the law holds it, as the program holds it. -/
def conv (x : S29) : S32 := ⟨x.f0, x.f1, x.f2, x.f3⟩
def tot (x : S29) : Nat := x.f1.size + x.f2.size + total x.f3
def totS (l : List S29) : Nat := (l.map fun x => tot x + 1).sum
theorem totS_cons (x : S29) (l : List S29) : totS (x :: l) = tot x + 1 + totS l := by simp [totS]
def sumS (l : List S29) : Nat := (l.map tot).sum
theorem sumS_cons (x : S29) (l : List S29) : sumS (x :: l) = tot x + sumS l := by simp [sumS]
theorem totS_sum (l : List S29) : totS l = sumS l + l.length := by
  induction l with
  | nil => rfl
  | cons s l ih => rw [totS_cons, sumS_cons, ih, List.length_cons]; omega
theorem sumS_mem (l : List S29) (x : S29) (h : x ∈ l) : tot x ≤ sumS l := by
  induction l with
  | nil => simp at h
  | cons s l ih =>
    rw [sumS_cons]
    rcases List.mem_cons.1 h with rfl | h
    · omega
    · have := ih h; omega
/-- Seals that Go has. -/
def HasS (l : List S29) : Prop := l.length ≤ 9223372036854775807 ∧ ∀ x ∈ l, x.f1.size ≤ 9223372036854775807 ∧ x.f2.size ≤ 9223372036854775807 ∧ Has x.f3
theorem t29_at {l : List S29} {i : Nat} (h : i < l.length) : rd_T29 l (i : Int) = l[i] := by simp [rd_T29, List.getD_eq_getElem?_getD, h]
theorem t32_at {l : List S32} {i : Nat} (h : i < l.length) : rd_T32 l (i : Int) = l[i] := by simp [rd_T32, List.getD_eq_getElem?_getD, h]
theorem sz_seals (l : List S29) (hl : HasS l) (a : Int) (h0 : 0 ≤ a) (h1 : a ≤ 1099511627776) : Ev (fun k => laws_szSealS.f k l a) (if (totS l : Int) ≤ a then a - totS l else -1) := by
  have loop : ∀ (j i : Nat) (x : Int), l.length - i = j → i ≤ l.length → 0 ≤ x → x ≤ 1099511627776 → l.length ≤ 1099511627776 → Ev (fun k => laws_szSealS.l0 k l x (i : Int)) (if (sumS (l.drop i) : Int) ≤ x then x - sumS (l.drop i) else -1) := by
    intro j
    induction j with
    | zero =>
      intro i x hj hi h0 h1 hn
      have : l.drop i = [] := List.drop_eq_nil_of_le (by omega)
      rw [this, show sumS [] = 0 from rfl, if_pos (by omega)]
      refine Ev.step (fun k => ?_) (Ev.now _)
      show (if (i : Int) < (l.length : Int) then _ else _) = _
      rw [if_neg (by omega)]
      simp
    | succ j ih =>
      intro i x hj hi h0 h1 hn
      have hlt : i < l.length := by omega
      obtain ⟨hs1, hs2, hs3⟩ := hl.2 l[i] (List.getElem_mem hlt)
      have e0 := sz_seal l[i].f0 l[i].f1 l[i].f2 l[i].f3 hs1 hs2 hs3 x h0 h1
      have et : ((l[i].f1.size : Int) + (l[i].f2.size : Int) + (total l[i].f3 : Int)) = (tot l[i] : Int) := by unfold tot; omega
      rw [et] at e0
      rw [drop_at hlt, sumS_cons]
      refine Ev.step (f := fun k => (laws_szSeal.f k l[i].f0 l[i].f1 l[i].f2 l[i].f3 x).bind fun t => if t < 0 then some (-1) else laws_szSealS.l0 k l t ((i + 1 : Nat) : Int)) (fun k => ?_) (Ev.bind e0 ?_)
      · show (if (i : Int) < (l.length : Int) then _ else _) = _
        rw [if_pos (by omega), if_pos (by omega), t29_at hlt, n64 ((i : Int) + 1) (by omega)]
        rfl
      · by_cases hneg : (tot l[i] : Int) ≤ x
        · rw [if_pos hneg]
          have e := ih (i + 1) (x - (tot l[i] : Int)) (by omega) (by omega) (by omega) (by omega) hn
          have : (if ((sumS (l.drop (i + 1)) : Nat) : Int) ≤ x - (tot l[i] : Int) then x - (tot l[i] : Int) - ((sumS (l.drop (i + 1)) : Nat) : Int) else -1) = (if ((tot l[i] + sumS (l.drop (i + 1)) : Nat) : Int) ≤ x then x - ((tot l[i] + sumS (l.drop (i + 1)) : Nat) : Int) else -1) := by
            split <;> split <;> omega
          rw [this] at e
          exact Ev.congr (fun k => by rw [if_neg (by omega)]) e
        · rw [if_neg hneg, if_neg (by omega)]
          exact Ev.congr (fun k => by rw [if_pos (by omega)]) (Ev.now _)
  have hn := hl.1
  have hw : wrap64 (a - (l.length : Int)) = a - (l.length : Int) := n64 _ (by omega)
  have ht := totS_sum l
  by_cases hneg : a - (l.length : Int) < 0
  · rw [if_neg (by omega)]
    refine Ev.congr (fun k => ?_) (Ev.now _)
    show (if (wrap64 (a - (l.length : Int))) < 0 then _ else _) = _
    rw [hw, if_pos hneg]
  · have e := loop l.length 0 (a - (l.length : Int)) (by omega) (by omega) (by omega) (by omega) (by omega)
    rw [List.drop_zero] at e
    have : (if ((sumS l : Nat) : Int) ≤ a - (l.length : Int) then a - (l.length : Int) - ((sumS l : Nat) : Int) else -1) = (if ((totS l : Nat) : Int) ≤ a then a - ((totS l : Nat) : Int) else -1) := by
      split <;> split <;> omega
    rw [this] at e
    refine Ev.congr (fun k => ?_) e
    show (if (wrap64 (a - (l.length : Int))) < 0 then _ else _) = _
    rw [hw, if_neg hneg]
    rfl
theorem set_map {α β : Type} (g : α → β) (l : List α) (i : Nat) (z : β) (h : i < l.length) : ((l.take i).map g ++ List.replicate (l.length - i) z).set i (g l[i]) = (l.take (i + 1)).map g ++ List.replicate (l.length - (i + 1)) z := by
  have h1 : ((l.take i).map g).length = i := by rw [List.length_map, List.length_take]; omega
  rw [List.set_append_right _ _ (by omega), h1, Nat.sub_self]
  obtain ⟨m, hm⟩ : ∃ m, l.length - i = m + 1 := ⟨l.length - i - 1, by omega⟩
  rw [hm, show l.length - (i + 1) = m by omega, List.replicate_succ, List.set_cons_zero, List.take_succ_eq_append_getElem h, List.map_append, List.append_assoc]
  rfl
theorem to_seals (l : List S29) (hl : l.length ≤ 4398046511104) (hm : ∀ x ∈ l, x.f3.length ≤ 17592186044416) : Ev (fun k => laws_toSealS.f k l) (l.map conv) := by
  have loop : ∀ (j i : Nat), l.length - i = j → i ≤ l.length → Ev (fun k => laws_toSealS.l0 k l ((l.take i).map conv ++ List.replicate (l.length - i) z32) (i : Int)) (l.map conv) := by
    intro j
    induction j with
    | zero =>
      intro i hj hi
      obtain rfl : i = l.length := by omega
      rw [List.take_length, Nat.sub_self, List.replicate_zero, List.append_nil]
      refine Ev.step (fun k => ?_) (Ev.now _)
      show (if (l.length : Int) < (l.length : Int) then _ else _) = _
      rw [if_neg (by omega)]
    | succ j ih =>
      intro i hj hi
      have hlt : i < l.length := by omega
      have e := ih (i + 1) (by omega) (by omega)
      rw [← set_map conv l i _ hlt] at e
      have hlen : ((l.take i).map conv ++ List.replicate (l.length - i) z32).length = l.length := by simp; omega
      refine Ev.step (f := fun k => (laws_toSeal.f k l[i].f0 l[i].f1 l[i].f2 l[i].f3).bind fun b => laws_toSealS.l0 k l (((l.take i).map conv ++ List.replicate (l.length - i) z32).set i (⟨b.1, b.2.1, b.2.2.1, b.2.2.2⟩ : S32)) ((i + 1 : Nat) : Int)) (fun k => ?_)
        (Ev.bind (to_seal l[i].f0 l[i].f1 l[i].f2 l[i].f3 (hm _ (List.getElem_mem hlt))) e)
      show (if (i : Int) < (l.length : Int) then _ else _) = _
      rw [hlen, if_pos (by omega), if_pos (by omega), t29_at hlt, n64 ((i : Int) + 1) (by omega)]
      simp only [if_pos (show (i : Int) < (l.length : Int) by omega)]
      rfl
  have e := loop l.length 0 (by omega) (by omega)
  rw [List.take_zero, List.map_nil, List.nil_append, Nat.sub_zero] at e
  refine Ev.congr (fun k => ?_) e
  show (if 0 ≤ (l.length : Int) then _ else _) = _
  rw [if_pos (by omega), if_pos (by omega)]
  rfl
theorem eq_seals (l : List S32) (hl : l.length ≤ 9223372036854775800) (hm : ∀ x ∈ l, x.f3.length ≤ 9223372036854775800) : Ev (fun k => laws_eqSealS.f k l l) true := by
  have loop : ∀ (j i : Nat), l.length - i = j → i ≤ l.length → Ev (fun k => laws_eqSealS.l0 k l l (i : Int)) true := by
    intro j
    induction j with
    | zero =>
      intro i hj hi
      refine Ev.step (fun k => ?_) (Ev.now _)
      show (if (i : Int) < (l.length : Int) then _ else _) = _
      rw [if_neg (by omega)]
    | succ j ih =>
      intro i hj hi
      have hlt : i < l.length := by omega
      refine Ev.step (f := fun k => (laws_eqSeal.f k l[i].f0 l[i].f1 l[i].f2 l[i].f3 l[i].f0 l[i].f1 l[i].f2 l[i].f3).bind fun t => if t = true then laws_eqSealS.l0 k l l ((i + 1 : Nat) : Int) else some false) (fun k => ?_)
        (Ev.bind (eq_seal l[i].f0 l[i].f1 l[i].f2 l[i].f3 (hm _ (List.getElem_mem hlt))) (Ev.congr (fun k => by rw [if_pos rfl]) (ih (i + 1) (by omega) (by omega))))
      show (if (i : Int) < (l.length : Int) then _ else _) = _
      rw [if_pos (by omega), if_pos (by omega), if_pos (by omega), t32_at hlt, n64 ((i : Int) + 1) (by omega)]
      rfl
  refine Ev.congr (fun k => ?_) (loop l.length 0 (by omega) (by omega))
  show (if (l.length : Int) = (l.length : Int) then _ else _) = _
  rw [if_pos rfl]
  rfl
/-- The digest that the next seal has to bear. -/
def prevB (l : List S32) : ByteArray := if l.length = 0 then sha [] else (rd_T32 l ((l.length : Int) - 1)).f2
theorem prev_spec (l : List S32) (hl : l.length ≤ 9223372036854775800) : Ev (fun k => spec_l15Prev.f k l) (prevB l) := by
  unfold prevB
  by_cases h : l.length = 0
  · rw [if_pos h]
    refine Ev.congr (f := fun k => (spec_Digest.f k []).bind fun t => some t) (fun k => ?_) (Ev.bind (digest_spec [] (by simp) (by simp)) (Ev.now _))
    unfold spec_l15Prev.f
    rw [if_pos (by omega)]
  · rw [if_neg h]
    refine Ev.congr (fun k => ?_) (Ev.now _)
    unfold spec_l15Prev.f
    rw [if_neg (by omega), n64 _ (by omega), if_pos (by omega), if_pos (by omega)]
theorem prev_impl (l : List S32) (hl : l.length ≤ 9223372036854775800) : Ev (fun k => impl_prevOf.f k l) (prevB l) := by
  unfold prevB
  by_cases h : l.length = 0
  · rw [if_pos h]
    refine Ev.congr (f := fun k => (impl_Digest.f k []).bind fun t => some t) (fun k => ?_) (Ev.bind (digest_impl [] (by simp) (by simp)) (Ev.now _))
    unfold impl_prevOf.f
    rw [if_pos (by omega)]
  · rw [if_neg h]
    refine Ev.congr (fun k => ?_) (Ev.now _)
    unfold impl_prevOf.f
    rw [if_neg (by omega), n64 _ (by omega), if_pos (by omega), if_pos (by omega)]
/-- What both answer of the seals from number i on, j of them. -/
def chainB (l : List S32) : Nat → Nat → Bool
  | 0, _ => decide ((l.length : Int) ≤ 1000)
  | j + 1, i => if sealB (rd_T32 l (i : Int)).f0 (rd_T32 l (i : Int)).f1 (rd_T32 l (i : Int)).f2 (rd_T32 l (i : Int)).f3 = true then (if (rd_T32 l (i : Int)).f0 = ((i + 1 : Nat) : Int) then (if (rd_T32 l (i : Int)).f1.toList = (prevB (l.take i)).toList then chainB l j (i + 1) else false) else false) else false
theorem chain_spec (l : List S32) (hl : l.length ≤ 9223372036854775800) : Ev (fun k => spec_ChainOk.f k l) (chainB l l.length 0) := by
  have loop : ∀ (j i : Nat), l.length - i = j → i ≤ l.length → Ev (fun k => spec_ChainOk.l0 k l (i : Int)) (chainB l j i) := by
    intro j
    induction j with
    | zero =>
      intro i hj hi
      refine Ev.step (fun k => ?_) (Ev.now _)
      show (if (i : Int) < (l.length : Int) then _ else _) = _
      rw [if_neg (by omega)]
      rfl
    | succ j ih =>
      intro i hj hi
      have hlt : i < l.length := by omega
      generalize hx : rd_T32 l (i : Int) = x
      have hc : chainB l (j + 1) i = if sealB x.f0 x.f1 x.f2 x.f3 = true then (if x.f0 = ((i + 1 : Nat) : Int) then (if x.f1.toList = (prevB (l.take i)).toList then chainB l j (i + 1) else false) else false) else false := by rw [chainB, hx]
      rw [hc]
      refine Ev.step (f := fun k => (spec_SealOk.f k x.f0 x.f1 x.f2 x.f3).bind fun t => if t = true then (if x.f0 = ((i + 1 : Nat) : Int) then ((spec_l15Prev.f k (l.take i)).bind fun p => if x.f1.toList = p.toList then spec_ChainOk.l0 k l ((i + 1 : Nat) : Int) else some false) else some false) else some false) (fun k => ?_) (Ev.bind (seal_spec x.f0 x.f1 x.f2 x.f3) ?_)
      · show (if (i : Int) < (l.length : Int) then _ else _) = _
        rw [if_pos (by omega), if_pos (by omega), hx, n64 ((i : Int) + 1) (by omega)]
        simp only [if_pos (show (i : Int) ≤ (l.length : Int) by omega)]
        rfl
      · by_cases c1 : sealB x.f0 x.f1 x.f2 x.f3 = true
        · rw [if_pos c1]
          by_cases c2 : x.f0 = ((i + 1 : Nat) : Int)
          · rw [if_pos c2]
            refine Ev.congr (f := fun k => (spec_l15Prev.f k (l.take i)).bind fun p => if x.f1.toList = p.toList then spec_ChainOk.l0 k l ((i + 1 : Nat) : Int) else some false) (fun k => by rw [if_pos c1, if_pos c2]) (Ev.bind (prev_spec (l.take i) (by rw [List.length_take]; omega)) ?_)
            by_cases c3 : x.f1.toList = (prevB (l.take i)).toList
            · rw [if_pos c3]; exact Ev.congr (fun k => by rw [if_pos c3]) (ih (i + 1) (by omega) (by omega))
            · rw [if_neg c3]; exact Ev.congr (fun k => by rw [if_neg c3]) (Ev.now _)
          · rw [if_neg c2]; exact Ev.congr (fun k => by rw [if_pos c1, if_neg c2]) (Ev.now _)
        · rw [if_neg c1]; exact Ev.congr (fun k => by rw [if_neg c1]) (Ev.now _)
  exact loop l.length 0 (by omega) (by omega)
theorem chain_impl (l : List S32) (hl : l.length ≤ 9223372036854775800) (hm : ∀ x ∈ l, x.f3.length ≤ 9223372036854775800) : Ev (fun k => impl_ChainOk.f k l) (chainB l l.length 0) := by
  have loop : ∀ (j i : Nat), l.length - i = j → i ≤ l.length → Ev (fun k => impl_ChainOk.l0 k l l (l.length : Int) (i : Int)) (chainB l j i) := by
    intro j
    induction j with
    | zero =>
      intro i hj hi
      refine Ev.step (fun k => ?_) (Ev.now _)
      show (if (i : Int) < (l.length : Int) then _ else _) = _
      rw [if_neg (by omega)]
      rfl
    | succ j ih =>
      intro i hj hi
      have hlt : i < l.length := by omega
      have hxm : (rd_T32 l (i : Int)).f3.length ≤ 9223372036854775800 := by rw [t32_at hlt]; exact hm _ (List.getElem_mem hlt)
      generalize hx : rd_T32 l (i : Int) = x at hxm
      have hc : chainB l (j + 1) i = if sealB x.f0 x.f1 x.f2 x.f3 = true then (if x.f0 = ((i + 1 : Nat) : Int) then (if x.f1.toList = (prevB (l.take i)).toList then chainB l j (i + 1) else false) else false) else false := by rw [chainB, hx]
      rw [hc]
      refine Ev.step (f := fun k => (impl_SealOk.f k x.f0 x.f1 x.f2 x.f3).bind fun t => if t = true then (if x.f0 = ((i + 1 : Nat) : Int) then ((impl_prevOf.f k (l.take i)).bind fun p => if x.f1.toList = p.toList then impl_ChainOk.l0 k l l (l.length : Int) ((i + 1 : Nat) : Int) else some false) else some false) else some false) (fun k => ?_) (Ev.bind (seal_impl x.f0 x.f1 x.f2 x.f3 hxm) ?_)
      · show (if (i : Int) < (l.length : Int) then _ else _) = _
        rw [if_pos (by omega), if_pos (by omega), if_pos (by omega), hx, n64 ((i : Int) + 1) (by omega)]
        simp only [if_pos (show (i : Int) ≤ (l.length : Int) by omega)]
        rfl
      · by_cases c1 : sealB x.f0 x.f1 x.f2 x.f3 = true
        · rw [if_pos c1]
          by_cases c2 : x.f0 = ((i + 1 : Nat) : Int)
          · rw [if_pos c2]
            refine Ev.congr (f := fun k => (impl_prevOf.f k (l.take i)).bind fun p => if x.f1.toList = p.toList then impl_ChainOk.l0 k l l (l.length : Int) ((i + 1 : Nat) : Int) else some false) (fun k => by rw [if_pos c1, if_pos c2]) (Ev.bind (prev_impl (l.take i) (by rw [List.length_take]; omega)) ?_)
            by_cases c3 : x.f1.toList = (prevB (l.take i)).toList
            · rw [if_pos c3]; exact Ev.congr (fun k => by rw [if_pos c3]) (ih (i + 1) (by omega) (by omega))
            · rw [if_neg c3]; exact Ev.congr (fun k => by rw [if_neg c3]) (Ev.now _)
          · rw [if_neg c2]; exact Ev.congr (fun k => by rw [if_pos c1, if_neg c2]) (Ev.now _)
        · rw [if_neg c1]; exact Ev.congr (fun k => by rw [if_neg c1]) (Ev.now _)
  exact loop l.length 0 (by omega) (by omega)
theorem law_chain (l : List S29) (hl : HasS l) : Ev (fun k => laws_FnExactChainOk.f k l) true := by
  obtain ⟨K1, e1⟩ := sz_seals l hl 1048576 (by omega) (by omega)
  dsimp only at e1
  by_cases c2 : (totS l : Int) ≤ 1048576
  · have ht := totS_sum l
    have hsm : ∀ x ∈ l, x.f3.length ≤ 1048576 := fun x hx => by
      have h1 := sumS_mem l x hx
      have h2 := total_len x.f3
      unfold tot at h1
      omega
    have hm32 : ∀ x ∈ l.map conv, x.f3.length ≤ 9223372036854775800 := fun x hx => by
      obtain ⟨y, hy, rfl⟩ := List.mem_map.1 hx
      have := hsm y hy
      show y.f3.length ≤ _
      omega
    have hlen : (l.map conv).length = l.length := List.length_map ..
    obtain ⟨K2, e2⟩ := to_seals l (by omega) (fun x hx => by have := hsm x hx; omega)
    obtain ⟨K3, e3⟩ := chain_spec (l.map conv) (by omega)
    obtain ⟨K4, e4⟩ := chain_impl (l.map conv) (by omega) hm32
    obtain ⟨K5, e5⟩ := eq_seals (l.map conv) (by omega) hm32
    dsimp only at e2 e3 e4 e5
    refine ⟨K1 + K2 + K3 + K4 + K5, fun k hk => ?_⟩
    show laws_FnExactChainOk.f k l = some true
    unfold laws_FnExactChainOk.f
    rw [e1 k (by omega)]
    simp only [Option.bind_some, if_pos c2]
    rw [if_neg (by omega)]
    simp only [e2 k (by omega), e3 k (by omega), e4 k (by omega), e5 k (by omega), Option.bind_some, if_true, bne_self_eq_false]
    rfl
  · refine ⟨K1, fun k hk => ?_⟩
    show laws_FnExactChainOk.f k l = some true
    unfold laws_FnExactChainOk.f
    rw [e1 k (by omega)]
    simp only [Option.bind_some, if_neg c2]
    rw [if_pos (by omega)]
end Go.Proofs.Ytlekeiokdmnboaa.Pu
end

section
/- Drawn seals: each draw ends, and within what bounds it lies; plain Lean over the printed functions. -/
namespace Go.Proofs.Ytlekeiokdmnboaa.Pu
open Go Go.RowKit Go.Proofs.YtlekeiokdmnboaaW.PrintWords Go.Proofs.YtlekeiokdmnboaaW.PrintLast Go.Proofs.YtlekeiokdmnboaaW.PrintMore Go.Proofs.Ytlekeiokdmnboaa.Pa Go.Proofs.Ytlekeiokdmnboaa.Sha
set_option linter.unusedVariables false

theorem out_len (v : H8) (m : Nat) : (outUpTo v m).length = 4 * m := by
  induction m with
  | zero => rfl
  | succ m ih => unfold outUpTo at ih ⊢; rw [List.range_succ, List.flatMap_append, List.length_append, ih]; simp [bytes4]; omega
theorem sha_size (l : List Int) : (sha l).size = 32 := by
  show ((outUpTo (digest8 (pad l)) 8).map fun n => UInt8.ofNat n.toNat).toArray.size = 32
  rw [List.size_toArray, List.length_map, out_len]
theorem roots_some (b : List Int) (p h : Int) (hc : Cur b p) : ∃ x p' h', Ev (fun k => spec_l15Roots.f k b p h) (x, p', h') ∧ (x.length ≤ 3 ∧ ∀ s ∈ x, s.size = 32) ∧ Cur b p' := by
  have loop : ∀ (j : Nat) (x : List ByteArray) (p h : Int), x.length + j ≤ 3 → (∀ s ∈ x, s.size = 32) → Cur b p → ∃ x' p' h', Ev (fun k => spec_l15Roots.l0 k x (j : Int) b p h) (x', p', h') ∧ (x'.length ≤ 3 ∧ ∀ s ∈ x', s.size = 32) ∧ Cur b p' := by
    intro j
    induction j with
    | zero =>
      intro x p h hx hs hc
      refine ⟨x, p, h, Ev.step (f := fun _ => some (x, p, h)) (fun k => ?_) (Ev.now _), ⟨by omega, hs⟩, hc⟩
      show (if ((0 : Nat) : Int) > 0 then _ else _) = _
      rw [if_neg (by omega)]
    | succ j ih =>
      intro x p h hx hs hc
      obtain ⟨y, p1, h1, e, hy, hyb, hc1⟩ := some_some b p h hc
      obtain ⟨x', p', h', e2, hr⟩ := ih (x ++ [sha y]) p1 h1 (by simp; omega) (fun s hm => by
        rcases List.mem_append.1 hm with hm | hm
        · exact hs s hm
        · simp at hm; rw [hm]; exact sha_size y) hc1
      refine ⟨x', p', h', Ev.step (f := fun k => (spec_l1Some.f k b p h).bind fun t => (spec_Digest.f k t.1).bind fun d => spec_l15Roots.l0 k (x ++ [d]) (j : Int) b t.2.1 t.2.2) (fun k => ?_) (Ev.bind e (Ev.bind (digest_spec y (by omega) hyb) e2)), hr⟩
      show (if ((j + 1 : Nat) : Int) > 0 then _ else _) = _
      rw [if_pos (by omega), d64 (((j + 1 : Nat) : Int) - 1) (by omega), show ((j + 1 : Nat) : Int) - 1 = (j : Int) by omega]
      simp only [if_pos (show x.length < 8796093022208 by omega)]
  obtain ⟨v, p1, h1, e, hv, hc1⟩ := below_some b p h 3 hc (by omega)
  obtain ⟨n, rfl⟩ : ∃ n : Nat, v = (n : Int) := Int.eq_ofNat_of_zero_le hv.1
  obtain ⟨x', p', h', e2, hr⟩ := loop (n + 1) [] p1 h1 (by simp; omega) (by simp) hc1
  refine ⟨x', p', h', Ev.congr (fun k => ?_) e2, hr⟩
  unfold spec_l15Roots.f
  rw [e, Option.bind_some, d64 _ (by simp only; omega), show 1 + (n : Int) = ((n + 1 : Nat) : Int) by omega]
/-- Seals that are small. -/
def Small (l : List S32) : Prop := l.length ≤ 4 ∧ ∀ x ∈ l, x.f3.length ≤ 4
theorem draw_some (b : List Int) (p h : Int) (hc : Cur b p) : ∃ x p' h', Ev (fun k => spec_l15Draw.f k b p h) (x, p', h') ∧ Small x ∧ Cur b p' := by
  have loop : ∀ (j : Nat) (x : List S32) (p h : Int), x.length + j ≤ 4 → (∀ s ∈ x, s.f3.length ≤ 4 ∧ s.f2.size = 32) → Cur b p → ∃ x' p' h', Ev (fun k => spec_l15Draw.l0 k x (j : Int) b p h) (x', p', h') ∧ Small x' ∧ Cur b p' := by
    intro j
    induction j with
    | zero =>
      intro x p h hx hs hc
      refine ⟨x, p, h, Ev.step (f := fun _ => some (x, p, h)) (fun k => ?_) (Ev.now _), ⟨by omega, fun s hm => (hs s hm).1⟩, hc⟩
      show (if ((0 : Nat) : Int) > 0 then _ else _) = _
      rw [if_neg (by omega)]
    | succ j ih =>
      intro x p h hx hs hc
      have hp : (prevB x).size = 32 := by
        unfold prevB
        by_cases h0 : x.length = 0
        · rw [if_pos h0]; exact sha_size _
        · rw [if_neg h0, show ((x.length : Int) - 1) = ((x.length - 1 : Nat) : Int) by omega, t32_at (by omega)]
          exact (hs _ (List.getElem_mem _)).2
      obtain ⟨rs, p1, h1, e, ⟨hr3, hr32⟩, hc1⟩ := roots_some b p h hc
      have ht := small_total rs hr32
      obtain ⟨x', p', h', e2, hr⟩ := ih (x ++ [⟨((x.length + 1 : Nat) : Int), prevB x, sha (superB ((x.length + 1 : Nat) : Int) (prevB x) rs), rs⟩]) p1 h1 (by simp; omega) (fun s hm => by
        rcases List.mem_append.1 hm with hm | hm
        · exact hs s hm
        · simp at hm; rw [hm]; exact ⟨by show rs.length ≤ 4; omega, sha_size _⟩) hc1
      refine ⟨x', p', h', Ev.step (f := fun k => (spec_l15Prev.f k x).bind fun q => (spec_l15Roots.f k b p h).bind fun t => (spec_SuperOf.f k ((x.length + 1 : Nat) : Int) q t.1).bind fun s => spec_l15Draw.l0 k (x ++ [(⟨((x.length + 1 : Nat) : Int), q, s, t.1⟩ : S32)]) (j : Int) b t.2.1 t.2.2) (fun k => ?_)
        (Ev.bind (prev_spec x (by omega)) (Ev.bind e (Ev.bind (super_spec _ (prevB x) rs (by omega)) e2))), hr⟩
      show (if ((j + 1 : Nat) : Int) > 0 then _ else _) = _
      rw [if_pos (by omega), d64 (((j + 1 : Nat) : Int) - 1) (by omega), show ((j + 1 : Nat) : Int) - 1 = (j : Int) by omega, d64 ((x.length : Int) + 1) (by omega)]
      simp only [if_pos (show x.length < 2199023255552 by omega)]
      rfl
  obtain ⟨v, p1, h1, e, hv, hc1⟩ := below_some b p h 4 hc (by omega)
  obtain ⟨n, rfl⟩ : ∃ n : Nat, v = (n : Int) := Int.eq_ofNat_of_zero_le hv.1
  obtain ⟨x', p', h', e2, hr⟩ := loop n [] p1 h1 (by simp; omega) (by simp) hc1
  refine ⟨x', p', h', Ev.congr (fun k => ?_) e2, hr⟩
  unfold spec_l15Draw.f
  rw [e, Option.bind_some]
theorem bend_some (b : List Int) (p h : Int) (x : S32) (hx : x.f3.length ≤ 4) (hc : Cur b p) : ∃ q a s r p' h', Ev (fun k => spec_l15Bend.f k b p h x.f0 x.f1 x.f2 x.f3) (q, a, s, r, p', h') ∧ r.length ≤ 5 ∧ Cur b p' := by
  obtain ⟨v, p1, h1, e, hv, hc1⟩ := below_some b p h 5 hc (by omega)
  have start : ∀ k, spec_l15Bend.f k b p h x.f0 x.f1 x.f2 x.f3 = (if v = 0 then ((spec_l1Int.f b p1 h1 (([0, wrap64 (x.f0 + 1), 1001] : List Int))).bind fun bt455 => (some (bt455.1, x.f1, x.f2, x.f3, bt455.2.1, bt455.2.2))) else (if v = 1 then ((spec_l1Str.f b p1 h1 (([(⟨#[]⟩ : ByteArray), (⟨#[120]⟩ : ByteArray)] : List ByteArray))).bind fun bt461 => (some (x.f0, bt461.1, x.f2, x.f3, bt461.2.1, bt461.2.2))) else (if v = 2 then ((spec_Digest.f k (([9] : List Int))).bind fun t467 => (some (x.f0, x.f1, t467, x.f3, p1, h1))) else (if v = 3 then ((spec_Digest.f k (([1] : List Int))).bind fun t471 => ((spec_l1Str.f b p1 h1 (([(⟨#[]⟩ : ByteArray), t471] : List ByteArray))).bind fun bt475 => (some (x.f0, x.f1, x.f2, (x.f3 ++ [bt475.1]), bt475.2.1, bt475.2.2)))) else (some (x.f0, x.f1, x.f2, x.f3, p1, h1)))))) := by
    intro k
    unfold spec_l15Bend.f
    simp only [Option.bind_some, List.nil_append, List.length_nil, Nat.zero_add]
    rw [if_pos (by omega), e]
    simp only [Option.bind_some, if_pos (show x.f3.length < 8796093022208 by omega)]
  by_cases c0 : v = 0
  · obtain ⟨q, p2, h2, e2, _, hc2⟩ := int_some b p1 h1 [0, wrap64 (x.f0 + 1), 1001] hc1 (by simp)
    exact ⟨q, x.f1, x.f2, x.f3, p2, h2, Ev.congr (fun k => by rw [start, if_pos c0, e2, Option.bind_some]) (Ev.now _), by omega, hc2⟩
  · by_cases c1 : v = 1
    · obtain ⟨q, p2, h2, e2, _, hc2⟩ := str_some b p1 h1 [(⟨#[]⟩ : ByteArray), (⟨#[120]⟩ : ByteArray)] hc1 (by simp)
      exact ⟨x.f0, q, x.f2, x.f3, p2, h2, Ev.congr (fun k => by rw [start, if_neg c0, if_pos c1, e2, Option.bind_some]) (Ev.now _), by omega, hc2⟩
    · by_cases c2 : v = 2
      · exact ⟨x.f0, x.f1, sha [9], x.f3, p1, h1, Ev.congr (fun k => by rw [start, if_neg c0, if_neg c1, if_pos c2]) (Ev.bind (digest_spec [9] (by simp) (by simp)) (Ev.now _)), by omega, hc1⟩
      · by_cases c3 : v = 3
        · obtain ⟨q, p2, h2, e2, _, hc2⟩ := str_some b p1 h1 [(⟨#[]⟩ : ByteArray), sha [1]] hc1 (by simp)
          exact ⟨x.f0, x.f1, x.f2, x.f3 ++ [q], p2, h2, Ev.congr (fun k => by rw [start, if_neg c0, if_neg c1, if_neg c2, if_pos c3]) (Ev.bind (digest_spec [1] (by simp) (by simp)) (Ev.congr (fun k => by rw [e2, Option.bind_some]) (Ev.now _))), by simp; omega, hc2⟩
        · exact ⟨x.f0, x.f1, x.f2, x.f3, p1, h1, Ev.congr (fun k => by rw [start, if_neg c0, if_neg c1, if_neg c2, if_neg c3]) (Ev.now _), by omega, hc1⟩
/-- A beginning of what is a chain is one. -/
theorem take_rd (l : List S32) (i j : Nat) (hj : j < i) (hi : i ≤ l.length) : rd_T32 (l.take i) (j : Int) = rd_T32 l (j : Int) := by
  rw [t32_at (by rw [List.length_take]; omega), t32_at (by omega), List.getElem_take]
theorem chainB_len (l : List S32) (j i : Nat) (h : chainB l j i = true) : l.length ≤ 1000 := by
  induction j generalizing i with
  | zero => simp only [chainB, decide_eq_true_eq] at h; omega
  | succ j ih =>
    rw [chainB] at h
    split at h
    · split at h
      · split at h
        · exact ih _ h
        · cases h
      · cases h
    · cases h
theorem chainB_take (l : List S32) (n i j : Nat) (hi : i + j ≤ l.length) (hn : j ≤ n) (h : chainB l n i = true) : chainB (l.take (i + j)) j i = true := by
  have hlen := chainB_len l n i h
  induction j generalizing n i with
  | zero =>
    show decide (((l.take (i + 0)).length : Int) ≤ 1000) = true
    rw [decide_eq_true_eq, List.length_take]; omega
  | succ j ih =>
    obtain ⟨n, rfl⟩ : ∃ m, n = m + 1 := ⟨n - 1, by omega⟩
    rw [chainB] at h ⊢
    rw [take_rd l (i + (j + 1)) i (by omega) (by omega), List.take_take, show min i (i + (j + 1)) = i by omega]
    split at h
    · rename_i c1
      split at h
      · rename_i c2
        split at h
        · rename_i c3
          rw [if_pos c1, if_pos c2, if_pos c3]
          have := ih n (i + 1) (by omega) (by omega) h
          rw [show i + 1 + j = i + (j + 1) by omega] at this
          exact this
        · cases h
      · cases h
    · cases h
theorem chainB_seal (l : List S32) (n i j : Nat) (hj : j < n) (h : chainB l n i = true) : sealB (rd_T32 l ((i + j : Nat) : Int)).f0 (rd_T32 l ((i + j : Nat) : Int)).f1 (rd_T32 l ((i + j : Nat) : Int)).f2 (rd_T32 l ((i + j : Nat) : Int)).f3 = true := by
  induction j generalizing n i with
  | zero =>
    obtain ⟨n, rfl⟩ : ∃ m, n = m + 1 := ⟨n - 1, by omega⟩
    rw [chainB] at h
    split at h
    · assumption
    · cases h
  | succ j ih =>
    obtain ⟨n, rfl⟩ : ∃ m, n = m + 1 := ⟨n - 1, by omega⟩
    rw [chainB] at h
    split at h
    · split at h
      · split at h
        · have := ih n (i + 1) (by omega) h
          rw [show i + 1 + j = i + (j + 1) by omega] at this
          exact this
        · cases h
      · cases h
    · cases h
end Go.Proofs.Ytlekeiokdmnboaa.Pu
end

section
/- The law of drawn chains is true at every code; plain Lean over the printed functions. -/
namespace Go.Proofs.Ytlekeiokdmnboaa.Pu
open Go Go.RowKit Go.Proofs.YtlekeiokdmnboaaW.PrintWords Go.Proofs.YtlekeiokdmnboaaW.PrintLast Go.Proofs.YtlekeiokdmnboaaW.PrintMore Go.Proofs.Ytlekeiokdmnboaa.Pa
set_option linter.unusedVariables false

theorem any_some (b : List Int) (p h : Int) (hc : Cur b p) : ∃ x p' h', Ev (fun k => spec_l15Any.f k b p h) (x, p', h') ∧ x.length ≤ 4 ∧ ∀ s ∈ x, s.f3.length ≤ 5 := by
  obtain ⟨x, p1, h1, e1, ⟨hx, hs⟩, hc1⟩ := draw_some b p h hc
  have stay : ∀ (p h : Int), Ev (fun k => spec_l15Any.j0 k x false b p h) (x, p, h) := fun p h => Ev.step (f := fun _ => some (x, p, h)) (fun k => by rw [spec_l15Any.j0, if_neg (by simp)]) (Ev.now _)
  by_cases c : (x.length : Int) > 0
  · obtain ⟨v, p2, h2, e2, hc2⟩ := once_some b p1 h1 3 hc1 (by omega)
    have start : ∀ r, Ev (fun k => spec_l15Any.j0 k x v b p2 h2) r → Ev (fun k => spec_l15Any.f k b p h) r := fun r hr => by
      refine Ev.congr (f := fun k => (spec_l15Draw.f k b p h).bind fun t => if (t.1.length : Int) > 0 then ((spec_l1Once.f b t.2.1 t.2.2 3).bind fun u => spec_l15Any.j0 k t.1 u.1 b u.2.1 u.2.2) else spec_l15Any.j0 k t.1 false b t.2.1 t.2.2) (fun k => rfl) (Ev.bind e1 (Ev.congr (fun k => ?_) hr))
      simp only
      rw [if_pos c, e2, Option.bind_some]
    cases v with
    | false => exact ⟨x, p2, h2, start _ (stay p2 h2), hx, fun s hm => by have := hs s hm; omega⟩
    | true =>
      obtain ⟨q, p3, h3, e3, hq, hc3⟩ := below_some b p2 h2 (x.length : Int) hc2 (by omega)
      obtain ⟨i, rfl⟩ : ∃ i : Nat, q = (i : Int) := Int.eq_ofNat_of_zero_le hq.1
      have hi : i < x.length := by omega
      have hxi := hs x[i] (List.getElem_mem hi)
      obtain ⟨a0, a1, a2, a3, p4, h4, e4, hr, hc4⟩ := bend_some b p3 h3 x[i] hxi hc3
      refine ⟨x.set i ⟨a0, a1, a2, a3⟩, p4, h4, start _ (Ev.step (f := fun k => (spec_l15Bend.f k b p3 h3 x[i].f0 x[i].f1 x[i].f2 x[i].f3).bind fun t => some (x.set i (⟨t.1, t.2.1, t.2.2.1, t.2.2.2.1⟩ : S32), t.2.2.2.2.1, t.2.2.2.2.2)) (fun k => ?_) (Ev.bind e4 (Ev.now _))), by rw [List.length_set]; exact hx, fun s hm => ?_⟩
      · rw [spec_l15Any.j0, if_pos rfl, e3, Option.bind_some]
        simp only
        rw [if_pos (by omega), if_pos (by omega), t32_at hi]
        rfl
      · rcases List.mem_or_eq_of_mem_set hm with hm | rfl
        · have := hs s hm; omega
        · exact hr
  · refine ⟨x, p1, h1, Ev.congr (f := fun k => (spec_l15Draw.f k b p h).bind fun t => if (t.1.length : Int) > 0 then ((spec_l1Once.f b t.2.1 t.2.2 3).bind fun u => spec_l15Any.j0 k t.1 u.1 b u.2.1 u.2.2) else spec_l15Any.j0 k t.1 false b t.2.1 t.2.2) (fun k => rfl) (Ev.bind e1 (Ev.congr (fun k => ?_) (stay p1 h1))), hx, fun s hm => by have := hs s hm; omega⟩
    simp only
    rw [if_neg c]
theorem drawn_chain (b : List Int) (hb : b.length ≤ 1048576) : ∃ x, Ev (fun k => spec_DrawChainOk.f k b) x ∧ x.length ≤ 4 ∧ ∀ s ∈ x, s.f3.length ≤ 5 := by
  obtain ⟨p, h, e1, hc⟩ := new_some b hb
  obtain ⟨x, p', h', e2, hr⟩ := any_some b p h hc
  exact ⟨x, Ev.bind e1 (Ev.bind e2 (Ev.now _)), hr⟩
theorem sealB_super {q : Int} {p s : ByteArray} {rs : List ByteArray} (h : sealB q p s rs = true) : s.toList = (sha (superB q p rs)).toList ∧ p.size = 32 ∧ total rs = 33 * rs.length ∧ rs.length ≤ 8 := by
  unfold sealB at h
  simp only [Bool.and_eq_true, decide_eq_true_eq, beq_iff_eq] at h
  exact ⟨h.2, h.1.2.1, small_total rs h.1.2.2.2, h.1.2.2.1.2⟩
theorem law_chains (b : List Int) : Ev (fun k => laws_FnChains.f k b) true := by
  by_cases hb : (b.length : Int) > 1048576
  · refine Ev.congr (fun k => ?_) (Ev.now _)
    unfold laws_FnChains.f laws_big.f
    rw [Option.bind_some, if_pos (decide_eq_true hb)]
  · obtain ⟨l, e1, hl, hm⟩ := drawn_chain b (by omega)
    have hm2 : ∀ x ∈ l, x.f3.length ≤ 9223372036854775800 := fun x hx => by have := hm x hx; omega
    have e2 := chain_impl l (by omega) hm2
    have e3 := chain_spec l (by omega)
    have ee : Ev (fun k => impl_ChainOk.f k ([] : List S32)) true := chain_impl [] (by simp) (by simp)
    have loop : ∀ (j i : Nat), l.length - i = j → i ≤ l.length → Ev (fun k => laws_FnChains.l0 k l (chainB l l.length 0) (i : Int)) true := by
      intro j
      induction j with
      | zero =>
        intro i hj hi
        refine Ev.step (f := fun k => (impl_ChainOk.f k ([] : List S32)).bind fun t => some t) (fun k => ?_) (Ev.bind ee (Ev.now _))
        show (if (i : Int) < (l.length : Int) then _ else _) = _
        rw [if_neg (by omega)]
      | succ j ih =>
        intro i hj hi
        have hlt : i < l.length := by omega
        have hxm : (rd_T32 l (i : Int)).f3.length ≤ 9223372036854775800 := by rw [t32_at hlt]; exact hm2 _ (List.getElem_mem hlt)
        have hso : chainB l l.length 0 = true → sealB (rd_T32 l (i : Int)).f0 (rd_T32 l (i : Int)).f1 (rd_T32 l (i : Int)).f2 (rd_T32 l (i : Int)).f3 = true := fun hk => by
          have := chainB_seal l l.length 0 i (by omega) hk
          rw [Nat.zero_add] at this
          exact this
        generalize hx : rd_T32 l (i : Int) = x at hxm hso
        have s1 := seal_impl x.f0 x.f1 x.f2 x.f3 hxm
        have s2 := seal_spec x.f0 x.f1 x.f2 x.f3
        have e := ih (i + 1) (by omega) (by omega)
        refine Ev.step (f := fun k => (impl_SealOk.f k x.f0 x.f1 x.f2 x.f3).bind fun t542 => ((spec_SealOk.f k x.f0 x.f1 x.f2 x.f3).bind fun t543 => (if (t542 != t543) = true then (some false) else (if chainB l l.length 0 = true then ((impl_SealOk.f k x.f0 x.f1 x.f2 x.f3).bind fun t544 => (if t544 = true then ((impl_SuperOf.f k x.f0 x.f1 x.f3).bind fun t545 => (if x.f2.toList = t545.toList then ((impl_ChainOk.f k (l.take i)).bind fun t550 => (if t550 = true then (laws_FnChains.l0 k l (chainB l l.length 0) ((i + 1 : Nat) : Int)) else (some false))) else (some false))) else (some false))) else (laws_FnChains.l0 k l (chainB l l.length 0) ((i + 1 : Nat) : Int)))))) (fun k => ?_) ?_
        · show (if (i : Int) < (l.length : Int) then _ else _) = _
          rw [if_pos (by omega), if_pos (by omega), hx, n64 ((i : Int) + 1) (by omega)]
          simp only [if_pos (show (i : Int) ≤ (l.length : Int) by omega)]
          rfl
        · obtain ⟨K1, q1⟩ := s1
          obtain ⟨K2, q2⟩ := s2
          obtain ⟨K3, q3⟩ := e
          dsimp only at q1 q2 q3
          by_cases c : chainB l l.length 0 = true
          · have hs := hso c
            obtain ⟨z1, z2, z3, z4⟩ := sealB_super hs
            obtain ⟨K4, q4⟩ := super_impl x.f0 x.f1 x.f3 (by omega)
            have ht : chainB (l.take i) (l.take i).length 0 = true := by
              have := chainB_take l l.length 0 i (by omega) (by omega) c
              rw [Nat.zero_add] at this
              rw [show (l.take i).length = i by rw [List.length_take]; omega]
              exact this
            have e5 := chain_impl (l.take i) (by rw [List.length_take]; omega) (fun y hy => hm2 y (List.mem_of_mem_take hy))
            rw [ht] at e5
            obtain ⟨K5, q5⟩ := e5
            dsimp only at q4 q5
            refine ⟨K1 + K2 + K3 + K4 + K5, fun k hk => ?_⟩
            simp only [q1 k (by omega), q2 k (by omega), q4 k (by omega), q5 k (by omega), Option.bind_some, hs, c, if_true, bne_self_eq_false]
            rw [if_pos z1]
            have := q3 k (by omega)
            rw [c] at this
            simpa using this
          · refine ⟨K1 + K2 + K3, fun k hk => ?_⟩
            simp only [q1 k (by omega), q2 k (by omega), Option.bind_some, bne_self_eq_false, if_neg c]
            have := q3 k (by omega)
            simpa using this
    obtain ⟨K1, q1⟩ := e1
    obtain ⟨K2, q2⟩ := e2
    obtain ⟨K3, q3⟩ := e3
    obtain ⟨K4, q4⟩ := loop l.length 0 (by omega) (by omega)
    dsimp only at q1 q2 q3 q4
    refine ⟨K1 + K2 + K3 + K4, fun k hk => ?_⟩
    show laws_FnChains.f k b = some true
    unfold laws_FnChains.f laws_big.f
    rw [Option.bind_some, if_neg (by simpa using hb)]
    simp only [q1 k (by omega), q2 k (by omega), q3 k (by omega), Option.bind_some, bne_self_eq_false]
    have := q4 k (by omega)
    simpa using this
end Go.Proofs.Ytlekeiokdmnboaa.Pu
end

section
/- Arguments that a row reads, told in the kinds of the printed text: whatever a type reads as is a value of its kind; plain Lean over any program. -/
namespace Go.Proofs.Ytlekeiokdmnboaa.Opn
open Go Go.RowKit Go.Proofs.YtlekeiokdmnboaaW.PrintWords

/-- Whatever reads as type t is a value of kind d; 'good': what the reading shows of it. -/
def Opn (P : Program) (t : TypeId) {α : Type} (d : Kd α) (good : α → Prop) : Prop :=
  P.cellsOf t = d.sz ∧ ∀ {H : Type} {enc : TypeId × Value → H} {w : World} {base : Nat} {sp : Nat → Bool} {held : Bool} {fuel : Nat} {cs : List Value} {x : DataW H × List MemPlace},
    DataW.trod enc P w base sp held fuel t cs = some x → ∃ a, d.K w a cs ∧ good a
section
variable {P : Program} {t e : TypeId} {α β : Type}

theorem opn_int {k : IntKind} (ht : P.underlying t = some (.int k)) (hc : P.cellsOf t = 1) : Opn P t (Kd.int k) (fun a => (Lit.int k a).wf = true) :=
  ⟨hc, fun h => by
    obtain ⟨n, rfl, _, hw⟩ := DataW.trod_int ht h
    exact ⟨n, rfl, hw⟩⟩
/-- One after the other, each told of its place. -/
theorem choose_list {γ : Type} (n : Nat) (R : Nat → γ → Prop) (h : ∀ i, i < n → ∃ c, R i c) : ∃ l : List γ, l.length = n ∧ ∀ i c, l[i]? = some c → R i c := by
  induction n with
  | zero => exact ⟨[], rfl, fun i c hc => by simp at hc⟩
  | succ n ih =>
    obtain ⟨l, hl, hr⟩ := ih (fun i hi => h i (by omega))
    obtain ⟨c, hc⟩ := h n (by omega)
    refine ⟨l ++ [c], by simp [hl], fun i d hd => ?_⟩
    by_cases hi : i < n
    · rw [List.getElem?_append_left (by omega)] at hd
      exact hr i d hd
    · have hin : i = n := by
        have := (List.getElem?_eq_some_iff.1 hd).1
        simp at this; omega
      subst hin
      rw [List.getElem?_append_right (by omega)] at hd
      simp [hl] at hd
      subst hd
      exact hc
theorem opn_slice {d : Kd α} {good : α → Prop} (q : Nat) (ht : P.underlying t = some (.slice e)) (hc : P.cellsOf t = 1) (he : Opn P e d good) : Opn P t (Kd.slice q d) (fun l => l.length ≤ maxLen ∧ ∀ a ∈ l, good a) := by
  refine ⟨hc, fun {H enc w base sp held fuel cs x} h => ?_⟩
  rcases DataW.trod_slice ht h with ⟨rfl, _⟩ | ⟨a, len, cap, elems, rest, n, _, rfl, rfl, hb, hl, hm, hlen, hel, _, _⟩
  · exact ⟨[], ⟨none, 0, rfl, Nat.zero_le _, ⟨rfl, by simp, fun h0 => absurd h0 (by simp)⟩⟩, by simp, fun a ha => by simp at ha⟩
  · obtain ⟨l, hll, hr⟩ := choose_list (γ := α) len (fun i c => good c ∧ ∃ cs, cs.length = d.sz ∧ d.K w c cs ∧ ∀ j u, cs[j]? = some u → w.cell? (a.add (i * d.sz + j)) = some u) (fun i hi => by
      have h1 := hel i hi
      rw [List.getElem?_eq_getElem (by omega), Option.bind_eq_some_iff] at h1
      obtain ⟨cs, hcs, htr⟩ := h1
      obtain ⟨c, hk, hg⟩ := he.2 htr
      obtain ⟨_, hlen2, hcell⟩ := World.cells?_some hcs
      refine ⟨c, hg, cs, d.K_len hk, hk, fun j u hu => ?_⟩
      have hj : j < P.cellsOf e := by rw [← hlen2]; exact (List.getElem?_eq_some_iff.1 hu).1
      have h2 := hcell j hj
      rw [hu] at h2
      rw [← h2, he.1]
      congr 1
      unfold Addr.add
      by_cases z1 : i * d.sz = 0 <;> by_cases z2 : j = 0 <;> simp [z1, z2, Nat.add_assoc])
    refine ⟨l, ⟨some a, cap, by rw [hll], by omega, ⟨rfl, ?_, fun _ => ⟨a, rfl, fun j p hp => ?_⟩⟩⟩, by omega, fun c hc' => ?_⟩
    · simp only [maxLen] at hm; omega
    · obtain ⟨_, cs, h1, h2, h3⟩ := hr j p hp
      exact ⟨cs, h1, h2, h3⟩
    · obtain ⟨i, hi⟩ := List.getElem?_of_mem hc'
      exact (hr i c hi).1
end
end Go.Proofs.Ytlekeiokdmnboaa.Opn
end

section
/- The row of the law FnChains, out of its plain law and its walk. -/
namespace Go.Proofs.Ytlekeiokdmnboaa.fnChains
open Go.ChangeShapes Go.WideShapes Go.ChangeAt Go.RowKit Go.Proofs.Ytlekeiokdmnboaa.Pa Go.Proofs.Ytlekeiokdmnboaa.Opn Go.Proofs.YtlekeiokdmnboaaW.PrintWords
open Go.ChangeMaps (open_string shut_string)
theorem own : ownKnob Try.prog.godebug = none := by kernel_rfl
theorem laidOut : laidOutB Try.prog = true := by kernel_rfl
set_option maxRecDepth 100000 in
theorem lifted (os : Os) (started : os.Started) (H : Type) (enc : TypeId × Value → H) :
    ReturnsInHanded {} Try.checked os 5 .any (Rows.fnChainsSpec.pre6 enc Try.prog Try.f5 Rows.fnChainsRow.domain false) (Rows.fnChainsSpec.post enc Try.prog Try.f5 false true false false) := by
  refine returnsInHanded_of_change_sized (C := Try.checked) own started (by kernel_rfl) Try.func5
    (ChangeSpec.witness6 (enc := enc) (C := Try.checked) false ⟨#[], #[.slice none 0 0], []⟩ 8 (by kernel_rfl) (by kernel_rfl) (by kernel_rfl) (by kernel_rfl)) ?_
  intro W base args ds gs before hval0 hW hcnd hsz0 _
  have hval : ∀ (j : Nat) t v, Try.f5.params[j]? = some t → args[j]? = some v → Value.okWide Try.prog W .any base t v := hval0
  have hW' := hW
  obtain ⟨p, q, hA0, hV, rfl, hfz, hnd⟩ := hW
  have hA : DataW.TrodAll enc Try.prog W 0 (fun _ => true) true Try.f5.params.toList args.toList ds p := hA0
  rw [Try.params5] at hA hval
  obtain ⟨v0, vs0, d0, ds0, p0, q0, hargs, rfl, rfl, h0, r0⟩ := trodAll_cons hA
  obtain ⟨rfl, rfl, rfl⟩ := trodAll_nil r0
  obtain rfl : args = #[v0] := by cases args; simp_all
  obtain ⟨rfl, rfl⟩ := trodVars_none hV
  obtain ⟨A0, len0, cap0, rfl⟩ := okWide_slice Try.underlying36 (hval 0 36 v0 rfl rfl)
  have k0 := h0
  have lt0 : ∀ x ∈ p0, x.block < W.heap.size := by obtain ⟨m, hm⟩ := k0; exact DataW.trod_lt m _ _ _ hm
  obtain ⟨fu0, hf0⟩ := h0
  obtain ⟨x0, ⟨Ax0, cx0, ex0, lc0, hc0⟩, g0⟩ := ((opn_slice 5 Try.underlying36 (by kernel_rfl) (opn_int Try.underlying5 (by kernel_rfl))) : Opn Try.prog 36 (Kd.slice 5 (Kd.int .u8)) _).2 hf0
  simp only [Value.cells, List.cons.injEq, Value.slice.injEq, and_true] at ex0
  obtain ⟨rfl, rfl, rfl⟩ := ex0
  obtain ⟨k, hk⟩ := Ev.rounds (Pu.law_chains x0)
  refine (laws_FnChains.calls k _ _ x0 true W hc0 lc0 hk).mono fun e W' ⟨he, bel⟩ => ?_
  subst he
  exact ⟨_, rfl, _, _, _, [], _, [], hW', trodAll_mk1 (shut_bool Try.underlying4 _), (trodAll_cons_mk (Below.trod laidOut (by kernel_rfl) (of_decide_eq_true (by kernel_rfl)) k0 bel lt0) trodAll_mk0), rfl, bel.frame _, fun h => by cases h⟩
theorem over : Rows.fnChainsRow.holds Try.pinned (OpenSpec.ofChange Rows.fnChainsSpec) :=
  OpenClaim.holds_of_wide 5 Try.f5 rfl rfl rfl rfl rfl rfl rfl ⟨rfl, rfl, rfl, rfl, rfl⟩ rfl rfl rfl rfl rfl (by kernel_rfl) Try.func5 (by kernel_rfl)
    (of_decide_eq_true (by kernel_rfl)) (by unfold Func.isWrapper; first | (rw [if_pos (by decide +kernel)]; kernel_rfl) | (rw [if_neg (by decide +kernel)]; exact ⟨rfl, rfl⟩))
    (fun os started H enc _ => lifted os started H enc)
end Go.Proofs.Ytlekeiokdmnboaa.fnChains
namespace Go.Proofs.Ytlekeiokdmnboaa
/-- The row, for the claim. -/
theorem fnChains_holds : Rows.FnChainsSaid := fnChains.over
#print axioms fnChains_holds
end Go.Proofs.Ytlekeiokdmnboaa
end
