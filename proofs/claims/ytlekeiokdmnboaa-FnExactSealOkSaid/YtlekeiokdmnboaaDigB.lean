/- The walks of what turns a block of bytes in the program's digest: the rounds' constants, one block. -/
import Derived.Test.YtlekeiokdmnboaaProg
import Derived.Test.YtlekeiokdmnboaaWMore
import Derived.Test.YtlekeiokdmnboaaSha
import Derived.Test.YtlekeiokdmnboaaDigA
import Derived.StillTailTactics
import Derived.Lib.Hide
import Derived.Laws.Bits64
import Derived.WalkKit
import Derived.KernelRfl
import Derived.Deep.QuietTactic
import Derived.BigQuiet
import Derived.OwnWalk
namespace Go.Proofs.Ytlekeiokdmnboaa.Dig
open Go.RowKit Go.Proofs.YtlekeiokdmnboaaW.PrintWords Go.Proofs.YtlekeiokdmnboaaW.PrintLast Go.Proofs.YtlekeiokdmnboaaW.PrintMore Go.Proofs.Ytlekeiokdmnboaa.Sha
set_option linter.unusedVariables false
set_option linter.unusedSimpArgs false

set_option maxHeartbeats 1000000 in
set_option maxRecDepth 100000 in
theorem rounds_calls (w : World) :
    Calls Try.prog 65 #[] w fun e w' => e = .returned (.pointer (some ⟨w.heap.size, 0, none⟩)) ∧ Arr w' w.heap.size 120 64 (fun j => U (K j)) ∧ Below w.heap.size w w' := by
  go_enter Try.func65, Try.ntmps65
  go_wp2_with fail
  go_ret
  refine ⟨rfl, ?_, (Below.refl _ _).alloc (Nat.le_refl _) _⟩
  unfold Arr
  rw [show (((List.range 64).map fun j => Value.int .u32 (U (K j))).toArray) = _ from by
    simp only [List.range, List.range.loop, List.map, K, KL, U, List.getD_cons_zero, List.getD_cons_succ]
    rfl]
  exact heap_alloc_new w _

/-- Block b is an array of eight words. -/
def Arr8 (W : World) (b : Nat) (v : H8) : Prop := W.heap[b]? = some (.cells #[.int .u32 (U v.a), .int .u32 (U v.b), .int .u32 (U v.c), .int .u32 (U v.d), .int .u32 (U v.e), .int .u32 (U v.f), .int .u32 (U v.g), .int .u32 (U v.h)] 92 (0, 0))
theorem Arr8.lt {W : World} {b : Nat} {v : H8} (h : Arr8 W b v) : b < W.heap.size := (Array.getElem?_eq_some_iff.1 h).1
theorem Arr8.of {W : World} {b : Nat} {v : H8} (h : Arr W b 92 8 (fun j => U (v.get j))) : Arr8 W b v := h
theorem Arr8.to {W : World} {b : Nat} {v : H8} (h : Arr8 W b v) : Arr W b 92 8 (fun j => U (v.get j)) := h
theorem Arr8.cells {W : World} {b : Nat} {v : H8} (h : Arr8 W b v) : W.cell? ⟨b, 0, none⟩ = some (.int .u32 (U v.a)) ∧ W.cell? ⟨b, 1, none⟩ = some (.int .u32 (U v.b)) ∧ W.cell? ⟨b, 2, none⟩ = some (.int .u32 (U v.c)) ∧ W.cell? ⟨b, 3, none⟩ = some (.int .u32 (U v.d)) ∧
    W.cell? ⟨b, 4, none⟩ = some (.int .u32 (U v.e)) ∧ W.cell? ⟨b, 5, none⟩ = some (.int .u32 (U v.f)) ∧ W.cell? ⟨b, 6, none⟩ = some (.int .u32 (U v.g)) ∧ W.cell? ⟨b, 7, none⟩ = some (.int .u32 (U v.h)) :=
  ⟨h.to.cell 0 (by omega), h.to.cell 1 (by omega), h.to.cell 2 (by omega), h.to.cell 3 (by omega), h.to.cell 4 (by omega), h.to.cell 5 (by omega), h.to.cell 6 (by omega), h.to.cell 7 (by omega)⟩
theorem Arr8.free {W : World} {b : Nat} {v : H8} (h : Arr8 W b v) : W.frozen? ⟨b, 0, none⟩ = false ∧ W.frozen? ⟨b, 1, none⟩ = false ∧ W.frozen? ⟨b, 2, none⟩ = false ∧ W.frozen? ⟨b, 3, none⟩ = false ∧
    W.frozen? ⟨b, 4, none⟩ = false ∧ W.frozen? ⟨b, 5, none⟩ = false ∧ W.frozen? ⟨b, 6, none⟩ = false ∧ W.frozen? ⟨b, 7, none⟩ = false :=
  ⟨h.to.free 0, h.to.free 1, h.to.free 2, h.to.free 3, h.to.free 4, h.to.free 5, h.to.free 6, h.to.free 7⟩

def put8 (W : World) (b : Nat) (x0 x1 x2 x3 x4 x5 x6 x7 : Int) : World :=
  (((((((W.setCell ⟨b, 0, none⟩ (.int .u32 x0)).setCell ⟨b, 1, none⟩ (.int .u32 x1)).setCell ⟨b, 2, none⟩ (.int .u32 x2)).setCell ⟨b, 3, none⟩ (.int .u32 x3)).setCell ⟨b, 4, none⟩ (.int .u32 x4)).setCell ⟨b, 5, none⟩ (.int .u32 x5)).setCell ⟨b, 6, none⟩ (.int .u32 x6)).setCell ⟨b, 7, none⟩ (.int .u32 x7)
theorem put8_at {W : World} {b : Nat} {v : H8} (h : Arr8 W b v) (x0 x1 x2 x3 x4 x5 x6 x7 : Int) (v' : H8) (e0 : x0 = U v'.a) (e1 : x1 = U v'.b) (e2 : x2 = U v'.c) (e3 : x3 = U v'.d) (e4 : x4 = U v'.e) (e5 : x5 = U v'.f) (e6 : x6 = U v'.g) (e7 : x7 = U v'.h) :
    Arr8 (put8 W b x0 x1 x2 x3 x4 x5 x6 x7) b v' := by
  subst e0 e1 e2 e3 e4 e5 e6 e7
  refine Arr8.of (((((((((h.to.set 0 _).set 1 _).set 2 _).set 3 _).set 4 _).set 5 _).set 6 _).set 7 _).congr (fun j hj => ?_))
  rcases j with _ | _ | _ | _ | _ | _ | _ | _ | j
  · rfl
  · rfl
  · rfl
  · rfl
  · rfl
  · rfl
  · rfl
  · rfl
  · omega
theorem put8_far {W : World} {b : Nat} (x0 x1 x2 x3 x4 x5 x6 x7 : Int) (a : Nat) (hne : a ≠ b) : (put8 W b x0 x1 x2 x3 x4 x5 x6 x7).heap[a]? = W.heap[a]? := by
  have hs : ∀ (W : World) (j : Nat) (u : Value), (W.setCell ⟨b, j, none⟩ u).heap[a]? = W.heap[a]? := fun W j u => Below.heap_setCell W ⟨b, j, none⟩ u a hne
  unfold put8
  rw [hs, hs, hs, hs, hs, hs, hs, hs]
theorem put8_below {B : Nat} {w W : World} {b : Nat} (h : Below B w W) (hb : B ≤ b) (x0 x1 x2 x3 x4 x5 x6 x7 : Int) : Below B w (put8 W b x0 x1 x2 x3 x4 x5 x6 x7) :=
  (((((((h.setCell (p := ⟨b, 0, none⟩) hb _).setCell (p := ⟨b, 1, none⟩) hb _).setCell (p := ⟨b, 2, none⟩) hb _).setCell (p := ⟨b, 3, none⟩) hb _).setCell (p := ⟨b, 4, none⟩) hb _).setCell (p := ⟨b, 5, none⟩) hb _).setCell (p := ⟨b, 6, none⟩) hb _).setCell (p := ⟨b, 7, none⟩) hb _
theorem bs1_bits (x : BitVec 32) : Go.bits .xor .u32 (Go.bits .xor .u32 (U (x.rotateRight 6)) (U (x.rotateRight 11))) (U (x.rotateRight 25)) = U (bs1 x) := by rw [xor32, xor32]; rfl
theorem bs0_bits (x : BitVec 32) : Go.bits .xor .u32 (Go.bits .xor .u32 (U (x.rotateRight 2)) (U (x.rotateRight 13))) (U (x.rotateRight 22)) = U (bs0 x) := by rw [xor32, xor32]; rfl
theorem ch_bits (e f g : BitVec 32) : Go.bits .xor .u32 (Go.bits .and .u32 (U e) (U f)) (Go.bits .and .u32 (Go.bits .xor .u32 IntKind.u32.max (U e)) (U g)) = U (ch e f g) := by
  rw [show IntKind.u32.max = 4294967295 by decide, not32, and32, and32, xor32]; rfl
theorem maj_bits (a b c : BitVec 32) : Go.bits .xor .u32 (Go.bits .xor .u32 (Go.bits .and .u32 (U a) (U b)) (Go.bits .and .u32 (U a) (U c))) (Go.bits .and .u32 (U b) (U c)) = U (maj a b c) := by
  rw [and32, and32, and32, xor32, xor32]; rfl

set_option maxHeartbeats 2000000 in
set_option maxRecDepth 100000 in
theorem turn_calls (hb kb pb off c : Nat) (v0 : H8) (l : List Int) (w : World) (HH : Arr8 w hb v0) (HK : Arr w kb 120 64 (fun j => U (K j)))
    (hcell : ∀ j, j < 64 → w.cell? ⟨pb, off + j, none⟩ = some (.int .u8 (l.getD j 0))) (hbyte : ∀ j, 0 ≤ l.getD j 0 ∧ l.getD j 0 ≤ 255) :
    Calls Try.prog 68 #[.pointer (some ⟨hb, 0, none⟩), .slice (some ⟨pb, off, none⟩) 64 c, .pointer (some ⟨kb, 0, none⟩)] w fun e w' => e = .returned (.tuple #[]) ∧ Arr8 w' hb (block v0 l) ∧ w.grownBy w' (some hb) := by
  have hhb := HH.lt
  have hkb := HK.lt
  have HH' := Aside0.mk HH
  have HK' := Aside0.mk HK
  clear HH HK
  go_enter Try.func68, Try.ntmps68
  go_wp2_with fail
  refine (words_calls pb off c l _ hcell hbyte).mono ?_
  rintro e w1 ⟨rfl, hw1, hb1⟩
  have HW1 := Aside0.mk hw1
  have HB1 := Aside0.mk hb1
  have HH1 := Aside0.mk (show Arr8 w1 hb v0 from (hb1.block hb hhb).trans HH'.out)
  have HK1 := Aside0.mk (show Arr w1 kb 120 64 (fun j => U (K j)) from HK'.out.below hb1)
  have hlt1 := hw1.lt
  clear hcell hbyte hw1 hb1 HH' HK'
  obtain ⟨c0, c1, c2, c3, c4, c5, c6, c7⟩ := HH1.out.cells
  go_wp2_with fail
  have HV := Aside0.mk (show Arr8 (w1.alloc (.cells #[.int .u32 (U v0.a), .int .u32 (U v0.b), .int .u32 (U v0.c), .int .u32 (U v0.d), .int .u32 (U v0.e), .int .u32 (U v0.f), .int .u32 (U v0.g), .int .u32 (U v0.h)] 92)) w1.heap.size v0 from heap_alloc_new w1 _)
  have ha := below_alloc (Below.refl w1.heap.size w1) (.cells #[.int .u32 (U v0.a), .int .u32 (U v0.b), .int .u32 (U v0.c), .int .u32 (U v0.d), .int .u32 (U v0.e), .int .u32 (U v0.f), .int .u32 (U v0.g), .int .u32 (U v0.h)] 92)
  have HH2 := Aside0.mk (show Arr8 _ hb v0 from (ha.block hb (Nat.lt_of_lt_of_le hhb HB1.out.size)).trans HH1.out)
  have HK2 := Aside0.mk (HK1.out.below ha)
  have HW2 := Aside0.mk (HW1.out.below ha)
  have HB2 := Aside0.mk (HB1.out.trans (ha.mono HB1.out.size))
  have HL := Aside0.mk hlt1
  have HLh := Aside0.mk hhb
  have HLk := Aside0.mk hkb
  clear ha hlt1 hhb hkb HH1 HK1 HW1 HB1 c0 c1 c2 c3 c4 c5 c6 c7
  generalize w1.alloc (.cells #[.int .u32 (U v0.a), .int .u32 (U v0.b), .int .u32 (U v0.c), .int .u32 (U v0.d), .int .u32 (U v0.e), .int .u32 (U v0.f), .int .u32 (U v0.g), .int .u32 (U v0.h)] 92) = W2 at HV HH2 HK2 HW2 HB2 ⊢
  generalize w1.heap.size = vb at HV HL ⊢
  generalize hwb : w.heap.size = wb at HW2 HB2 HL HLh HLk ⊢
  go_loopw [22] (fun i wr => ∃ k : Nat, k ≤ 64 ∧ i = .int .i64 k ∧ Aside0 (Arr8 wr vb (steps K (W (wordAt l)) v0 k)) ∧ Aside0 (Arr8 wr hb v0) ∧ Aside0 (Arr wr kb 120 64 (fun j => U (K j))) ∧ Aside0 (Arr wr wb 120 64 (fun j => U (W (wordAt l) j))) ∧ Aside0 (Below wb w wr)) (fun i _ => 64 - (intOf i).toNat)
  case atStart => exact ⟨0, by omega, rfl, HV, HH2, HK2, HW2, HB2⟩
  case round =>
    clear HV HH2 HK2 HW2 HB2
    obtain ⟨k, hk, rfl, HV, HH, HK, HW, HB⟩ := hrel
    by_cases hlt : k < 64
    · have HS : Aside0 (steps K (W (wordAt l)) v0 (k + 1) = Sha.step (K k) (W (wordAt l) k) (steps K (W (wordAt l)) v0 k)) := ⟨rfl⟩
      have ck := HK.out.cell k hlt
      have cw := HW.out.cell k hlt
      generalize steps K (W (wordAt l)) v0 k = v at HV HS
      generalize K k = kk at ck HS
      generalize W (wordAt l) k = ww at cw HS
      obtain ⟨c0, c1, c2, c3, c4, c5, c6, c7⟩ := HV.out.cells
      obtain ⟨f0, f1, f2, f3, f4, f5, f6, f7⟩ := HV.out.free
      have q4 : (k : Int) < 64 := by omega
      go_wp2_with fail
      go_quiet (fail)
      go_wp2_with (go_at_call 91; refine (rot_any _ _ (by decide) (by decide) _).mono ?_; rintro e w' ⟨rfl, rfl⟩)
      rw [bs1_bits, ch_bits]
      have e0 : (wr.drewN nq).cell? ⟨vb, 0, none⟩ = _ := c0
      have e1 : (wr.drewN nq).cell? ⟨vb, 1, none⟩ = _ := c1
      have e2 : (wr.drewN nq).cell? ⟨vb, 2, none⟩ = _ := c2
      have e3 : (wr.drewN nq).cell? ⟨vb, 3, none⟩ = _ := c3
      have e4 : (wr.drewN nq).cell? ⟨vb, 4, none⟩ = _ := c4
      have e5 : (wr.drewN nq).cell? ⟨vb, 5, none⟩ = _ := c5
      have e6 : (wr.drewN nq).cell? ⟨vb, 6, none⟩ = _ := c6
      have e7 : (wr.drewN nq).cell? ⟨vb, 7, none⟩ = _ := c7
      have g0 : (wr.drewN nq).frozen? ⟨vb, 0, none⟩ = _ := f0
      have g1 : (wr.drewN nq).frozen? ⟨vb, 1, none⟩ = _ := f1
      have g2 : (wr.drewN nq).frozen? ⟨vb, 2, none⟩ = _ := f2
      have g3 : (wr.drewN nq).frozen? ⟨vb, 3, none⟩ = _ := f3
      have g4 : (wr.drewN nq).frozen? ⟨vb, 4, none⟩ = _ := f4
      have g5 : (wr.drewN nq).frozen? ⟨vb, 5, none⟩ = _ := f5
      have g6 : (wr.drewN nq).frozen? ⟨vb, 6, none⟩ = _ := f6
      have g7 : (wr.drewN nq).frozen? ⟨vb, 7, none⟩ = _ := f7
      have dk : (wr.drewN nq).cell? ⟨kb, k, none⟩ = _ := ck
      have dw : (wr.drewN nq).cell? ⟨wb, k, none⟩ = _ := cw
      have HV2 : Aside0 (Arr8 (wr.drewN nq) vb v) := ⟨HV.out⟩
      have HH2 : Aside0 (Arr8 (wr.drewN nq) hb v0) := ⟨HH.out⟩
      have HK2 := Aside0.mk (HK.out.drewN nq)
      have HW2 := Aside0.mk (HW.out.drewN nq)
      have HB2 := Aside0.mk (pw_below_drewN HB.out nq)
      clear c0 c1 c2 c3 c4 c5 c6 c7 f0 f1 f2 f3 f4 f5 f6 f7 ck cw HV HH HK HW HB
      generalize wr.drewN nq = wq at e0 e1 e2 e3 e4 e5 e6 e7 g0 g1 g2 g3 g4 g5 g6 g7 dk dw HV2 HH2 HK2 HW2 HB2 ⊢
      go_quiet (fail)
      go_wp2_with (go_at_call 91; refine (rot_any _ _ (by decide) (by decide) _).mono ?_; rintro e w' ⟨rfl, rfl⟩)
      rw [bs0_bits, maj_bits]
      refine ⟨⟨k + 1, by omega, by go_num, ⟨?_⟩, ⟨?_⟩, ⟨?_⟩, ⟨?_⟩, ⟨?_⟩⟩, by simp [intOf]; omega⟩
      · rw [HS.out]
        exact put8_at (W := wq.drewN nq) HV2.out _ _ _ _ _ _ _ _ _ (U_add7 _ _ _ _ _ _ _) rfl rfl rfl (U_add1_5 _ _ _ _ _ _) rfl rfl rfl
      · exact (put8_far (W := wq.drewN nq) (b := vb) _ _ _ _ _ _ _ _ hb (by have := HL.out; have := HLh.out; omega)).trans HH2.out
      · exact (put8_far (W := wq.drewN nq) (b := vb) _ _ _ _ _ _ _ _ kb (by have := HL.out; have := HLk.out; omega)).trans HK2.out
      · exact (put8_far (W := wq.drewN nq) (b := vb) _ _ _ _ _ _ _ _ wb (by have := HL.out; omega)).trans HW2.out
      · exact put8_below (pw_below_drewN HB2.out nq) (by have := HL.out; omega) _ _ _ _ _ _ _ _
    · obtain rfl : k = 64 := by omega
      go_wp2_with fail
      have HT := Aside0.mk (show Arr wr hb 92 8 (fun j => if j < 0 then U (v0.get j + (steps K (W (wordAt l)) v0 64).get j) else U (v0.get j)) from HH.out.to.congr (fun j _ => by rw [if_neg (by omega)]))
      have HG := Aside0.mk (show w.grownBy wr (some hb) from grown_of_below (by rw [hwb]; exact HB.out) _)
      have HX : Aside0 (block v0 l = plus (steps K (W (wordAt l)) v0 64) v0) := ⟨rfl⟩
      clear HH HK HW HB
      generalize steps K (W (wordAt l)) v0 64 = S at HV HT HX
      go_loopw [109] (fun i wr => ∃ k : Nat, k ≤ 8 ∧ i = .int .i64 k ∧ Aside0 (Arr wr hb 92 8 (fun j => if j < k then U (v0.get j + S.get j) else U (v0.get j))) ∧ Aside0 (Arr8 wr vb S) ∧ Aside0 (w.grownBy wr (some hb))) (fun i _ => 8 - (intOf i).toNat)
      case atStart => exact ⟨0, by omega, rfl, HT, HV, HG⟩
      case round =>
        clear HT HV HG
        obtain ⟨k, hk, rfl, HT, HV, HG⟩ := hrel
        by_cases hlt : k < 8
        · have c0 := HT.out.cell k hlt
          rw [if_neg (by omega)] at c0
          have f0 := HT.out.free k
          have c1 := HV.out.to.cell k hlt
          generalize hX : v0.get k = X at c0
          generalize hY : S.get k = Y at c1
          have HX2 := Aside0.mk hX
          have HY2 := Aside0.mk hY
          clear hX hY
          have q4 : (k : Int) < 8 := by omega
          have p4 : 0 ≤ (k : Int) := by omega
          go_wp2_with fail
          go_still_tail 11, (by kernel_rfl)
          change wpList _ _ _ _ _ wr.drew
          have c0' : wr.drew.cell? ⟨hb, k, none⟩ = _ := c0
          have f0' : wr.drew.frozen? ⟨hb, k, none⟩ = _ := f0
          clear c0 c1 f0 q4 p4
          go_wp2_with fail
          go_roundw
          case rel =>
            repeat apply Exists.intro
            refine ⟨?_, rfl⟩
            refine ⟨k + 1, by omega, by go_num, ⟨?_⟩, ⟨?_⟩, ⟨?_⟩⟩
            · refine ((HT.out.set k _).drew).congr (fun j hj => ?_)
              by_cases hjk : j = k
              · subst hjk
                show (if j = j then _ else _) = (if j < j + 1 then _ else _)
                rw [if_pos rfl, if_pos (Nat.lt_succ_self _), U_add, HX2.out, HY2.out]
              · simp only [hjk, if_false]
                by_cases h2 : j < k
                · rw [if_pos h2, if_pos (by omega)]
                · rw [if_neg h2, if_neg (by omega)]
            · exact (Below.heap_setCell wr ⟨hb, k, none⟩ _ vb (by show vb ≠ hb; have := HL.out; have := HLh.out; omega)).trans HV.out
            · exact ⟨HG.out.os, HG.out.tape, HG.out.output, by simpa [World.setCell] using HG.out.size, fun i hi hne => (Below.heap_setCell wr ⟨hb, k, none⟩ _ i (fun e => hne (by rw [e]))).trans (HG.out.block i hi hne)⟩
          case measure => simp [intOf]; omega
        · obtain rfl : k = 8 := by omega
          go_wp2_with fail
          go_end0
          refine ⟨rfl, ?_, HG.out⟩
          rw [HX.out]
          refine Arr8.of (HT.out.congr (fun j hj => ?_))
          rw [if_pos hj]
          rcases j with _ | _ | _ | _ | _ | _ | _ | _ | j
          · rfl
          · rfl
          · rfl
          · rfl
          · rfl
          · rfl
          · rfl
          · rfl
          · omega
end Go.Proofs.Ytlekeiokdmnboaa.Dig
