/- The walks of what turns a block of bytes in the program's digest: words, rounds, one block. -/
import Derived.Test.YtlekeiokdmnboaaProg
import Derived.Test.YtlekeiokdmnboaaWMore
import Derived.Test.YtlekeiokdmnboaaSha
import Derived.StillTailTactics
import Derived.Lib.Hide
import Derived.Laws.Bits64
import Derived.WalkKit
import Derived.KernelRfl
import Derived.Deep.QuietTactic
import Derived.BigQuiet
import Derived.OwnWalk
namespace Go.Proofs.Ytlekeiokdmnboaa.Dig
open Go.RowKit Go.Proofs.YtlekeiokdmnboaaW.PrintWords Go.Proofs.YtlekeiokdmnboaaW.PrintLast Go.Proofs.YtlekeiokdmnboaaW.PrintMore Go.Proofs.Ytlekeiokdmnboaa.Sha
set_option linter.unusedVariables false
set_option linter.unusedSimpArgs false

theorem rot_bits (m : Nat) (h : m < 32) : Go.bits .and .u64 (IntKind.u64.wrap ((m : Int) - 32)) 31 = (m : Int) := by
  rw [IntKind.wrap_u64]
  have e : ((m : Int) - 32) % 18446744073709551616 = if m < 32 then (m : Int) + 18446744073709551584 else 0 := by
    rw [if_pos h]; omega
  rw [e, if_pos h]
  have := bits_mask .u64 64 (by decide) (fun n a b => by rw [IntKind.wrap_u64]; omega) 5 (by decide) ((m : Int) + 18446744073709551584) (by omega) (by omega)
  have e2 : ((2 : Int) ^ 5 - 1) = 31 := by decide
  rw [e2] at this
  rw [this]; omega
theorem rot_calls (x : BitVec 32) (n : Nat) (k : Int) (hk : k = -(n : Int)) (h1 : 1 ≤ n) (h2 : n < 32) (w : World) :
    Calls Try.prog 91 #[.int .u32 (U x), .int .i64 k] w fun e w' => e = .returned (.int .u32 (U (x.rotateRight n))) ∧ w = w' := by
  obtain ⟨m, hm⟩ : ∃ m : Nat, m = 32 - n := ⟨_, rfl⟩
  have hkm : k = (m : Int) - 32 := by omega
  have hb0 : Go.bits .and .u64 (IntKind.u64.wrap k) 31 = (m : Int) := by rw [hkm]; exact rot_bits m (by omega)
  have hb1 : IntKind.u64.wrap (32 - (m : Int)) = (n : Int) := by rw [IntKind.wrap_u64]; omega
  have hr := turn32 x n h2
  rw [show 32 - n = min m 32 by omega, show U x / 2 ^ n = U x / 2 ^ min n 32 by rw [Nat.min_eq_left (by omega)]] at hr
  have HR := Lib.hid hr
  clear hr hk hkm hm h1 h2
  go_enter Try.func91, Try.ntmps91
  go_wp2
  go_ret
  exact ⟨by rw [HR.out]; rfl, rfl⟩
theorem rot_any (x : BitVec 32) (k : Int) (h1 : -32 < k) (h2 : k < 0) (w : World) :
    Calls Try.prog 91 #[.int .u32 (U x), .int .i64 k] w fun e w' => e = .returned (.int .u32 (U (x.rotateRight (-k).toNat))) ∧ w = w' :=
  rot_calls x (-k).toNat k (by omega) (by omega) (by omega) w

/-- Block b is an array of n words. -/
def Arr (W : World) (b t n : Nat) (f : Nat → Int) : Prop := W.heap[b]? = some (.cells ((List.range n).map fun j => Value.int .u32 (f j)).toArray t (0, 0))
theorem Arr.cell {W : World} {b t n : Nat} {f : Nat → Int} (h : Arr W b t n f) (j : Nat) (hj : j < n) : W.cell? ⟨b, j, none⟩ = some (.int .u32 (f j)) := by
  unfold Arr at h
  simp [World.cell?, h, hj]
theorem Arr.free {W : World} {b t n : Nat} {f : Nat → Int} (h : Arr W b t n f) (j : Nat) : W.frozen? ⟨b, j, none⟩ = false := by
  unfold Arr at h
  simp [World.frozen?, h]
theorem Arr.lt {W : World} {b t n : Nat} {f : Nat → Int} (h : Arr W b t n f) : b < W.heap.size := (Array.getElem?_eq_some_iff.1 h).1
theorem Arr.set {W : World} {b t n : Nat} {f : Nat → Int} (h : Arr W b t n f) (j : Nat) (v : Int) : Arr (W.setCell ⟨b, j, none⟩ (.int .u32 v)) b t n (fun i => if i = j then v else f i) := by
  unfold Arr at h ⊢
  have h1 := blk_set h j (.int .u32 v)
  rw [h1]
  congr 2
  apply Array.ext_getElem?
  intro i
  simp [Array.getElem?_setIfInBounds]
  by_cases hi : i < n
  · by_cases hij : j = i
    · subst hij; simp [hi]
    · simp [hi, hij, show ¬ i = j from fun e => hij e.symm]
  · by_cases hij : j = i
    · subst hij; simp [hi]
    · simp [hi, hij]
theorem Arr.below {W W1 : World} {b t n : Nat} {f : Nat → Int} (h : Arr W b t n f) (hb : Below W.heap.size W W1) : Arr W1 b t n f := (hb.block b h.lt).trans h
theorem Arr.drewN {W : World} {b t n : Nat} {f : Nat → Int} (h : Arr W b t n f) (m : Nat) : Arr (W.drewN m) b t n f := h
theorem Arr.drew {W : World} {b t n : Nat} {f : Nat → Int} (h : Arr W b t n f) : Arr W.drew b t n f := h

theorem Arr.congr {W : World} {b t n : Nat} {f g : Nat → Int} (h : Arr W b t n f) (hfg : ∀ j, j < n → f j = g j) : Arr W b t n g := by
  unfold Arr at h ⊢
  rw [h]
  congr 3
  exact List.map_congr_left (fun j hj => by rw [hfg j (by simpa using hj)])
theorem or_add (a b : Nat) (i : Nat) (hb : b < 2 ^ i) (ha : a % 2 ^ i = 0) : a ||| b = a + b := by
  have hq : a = 2 ^ i * (a / 2 ^ i) := by have := Nat.div_add_mod a (2 ^ i); omega
  rw [hq, ← Nat.two_pow_add_eq_or_of_lt hb]
theorem word_bits (x0 x1 x2 x3 : Int) (h0 : 0 ≤ x0) (k0 : x0 ≤ 255) (h1 : 0 ≤ x1) (k1 : x1 ≤ 255) (h2 : 0 ≤ x2) (k2 : x2 ≤ 255) (h3 : 0 ≤ x3) (k3 : x3 ≤ 255) :
    Go.bits .or .u32 (Go.bits .or .u32 (Go.bits .or .u32 (x0 * 16777216) (x1 * 65536)) (x2 * 256)) x3 = U (word x0 x1 x2 x3) := by
  obtain ⟨a, rfl⟩ := Int.eq_ofNat_of_zero_le h0
  obtain ⟨b, rfl⟩ := Int.eq_ofNat_of_zero_le h1
  obtain ⟨c, rfl⟩ := Int.eq_ofNat_of_zero_le h2
  obtain ⟨d, rfl⟩ := Int.eq_ofNat_of_zero_le h3
  have e0 : (a : Int) * 16777216 = ((a * 16777216 : Nat) : Int) := by omega
  have e1 : (b : Int) * 65536 = ((b * 65536 : Nat) : Int) := by omega
  have e2 : (c : Int) * 256 = ((c * 256 : Nat) : Int) := by omega
  have hk : ∀ n : Int, 0 ≤ n → n < 2 ^ 32 → IntKind.u32.wrap n = n := fun n x y => by rw [IntKind.wrap_u32]; omega
  rw [e0, e1, e2, (bits_nat .u32 32 (by decide) hk _ _ (by omega) (by omega)).2, or_add _ _ 24 (by omega) (by omega),
    (bits_nat .u32 32 (by decide) hk _ _ (by omega) (by omega)).2, or_add _ _ 16 (by omega) (by omega),
    (bits_nat .u32 32 (by decide) hk _ _ (by omega) (by omega)).2, or_add _ _ 8 (by omega) (by omega)]
  unfold U word
  have : ((a : Int) * 16777216 + (b : Int) * 65536 + (c : Int) * 256 + (d : Int)) = ((a * 16777216 + b * 65536 + c * 256 + d : Nat) : Int) := by omega
  rw [this, BitVec.ofInt_natCast, BitVec.toNat_ofNat]
  omega

theorem sg0_bits (x : BitVec 32) : Go.bits .xor .u32 (Go.bits .xor .u32 (U (x.rotateRight 7)) (U (x.rotateRight 18))) (U x / 8) = U (sg0 x) := by
  have := shr_U x 3
  rw [show (2 : Int) ^ 3 = 8 by decide] at this
  rw [this, xor32, xor32]; rfl
theorem sg1_bits (x : BitVec 32) : Go.bits .xor .u32 (Go.bits .xor .u32 (U (x.rotateRight 17)) (U (x.rotateRight 19))) (U x / 1024) = U (sg1 x) := by
  have := shr_U x 10
  rw [show (2 : Int) ^ 10 = 1024 by decide] at this
  rw [this, xor32, xor32]; rfl

set_option maxHeartbeats 1000000 in
set_option maxRecDepth 100000 in
theorem words_calls (pb off c : Nat) (l : List Int) (w : World) (hcell : ∀ j, j < 64 → w.cell? ⟨pb, off + j, none⟩ = some (.int .u8 (l.getD j 0))) (hbyte : ∀ j, 0 ≤ l.getD j 0 ∧ l.getD j 0 ≤ 255) :
    Calls Try.prog 90 #[.slice (some ⟨pb, off, none⟩) 64 c] w fun e w' => e = .returned (.pointer (some ⟨w.heap.size, 0, none⟩)) ∧ Arr w' w.heap.size 120 64 (fun j => U (W (wordAt l) j)) ∧ Below w.heap.size w w' := by
  have hpb : pb < w.heap.size := World.block_lt_of_cell? w _ (hcell 0 (by omega))
  go_enter Try.func90, Try.ntmps90
  go_wp2_with fail
  have hA0 : Arr (w.alloc (.cells ((List.range 64).map fun _ => Value.int .u32 0).toArray 120)) w.heap.size 120 64 (fun j => if j < 0 then U (wordAt l j) else 0) := by
    unfold Arr
    simpa using heap_alloc_new w (.cells ((List.range 64).map fun _ => Value.int .u32 0).toArray 120)
  have HA0 := Aside0.mk hA0
  clear hA0
  have HC := Aside0.mk hcell
  have HY := Aside0.mk hbyte
  clear hcell hbyte
  go_loopw [10] (fun i wr => ∃ k : Nat, k ≤ 16 ∧ i = .int .i64 k ∧ Aside0 (Arr wr w.heap.size 120 64 (fun j => if j < k then U (wordAt l j) else 0)) ∧ Aside0 (Below w.heap.size w wr)) (fun i _ => 16 - (intOf i).toNat)
  case atStart => exact ⟨0, by omega, rfl, HA0, ⟨(Below.refl _ _).alloc (Nat.le_refl _) _⟩⟩
  case round =>
    obtain ⟨k, hk, rfl, HA, HB⟩ := hrel
    clear HA0
    by_cases hlt : k < 16
    · have c0 := (HB.out.cell (p := ⟨pb, off + 4 * k, none⟩) hpb).trans (HC.out (4 * k) (by omega))
      have c1 := (HB.out.cell (p := ⟨pb, off + (4 * k + 1), none⟩) hpb).trans (HC.out (4 * k + 1) (by omega))
      have c2 := (HB.out.cell (p := ⟨pb, off + (4 * k + 2), none⟩) hpb).trans (HC.out (4 * k + 2) (by omega))
      have c3 := (HB.out.cell (p := ⟨pb, off + (4 * k + 3), none⟩) hpb).trans (HC.out (4 * k + 3) (by omega))
      have b0 := HY.out (4 * k)
      have b1 := HY.out (4 * k + 1)
      have b2 := HY.out (4 * k + 2)
      have b3 := HY.out (4 * k + 3)
      generalize hx0 : l.getD (4 * k) 0 = x0 at c0 b0
      generalize hx1 : l.getD (4 * k + 1) 0 = x1 at c1 b1
      generalize hx2 : l.getD (4 * k + 2) 0 = x2 at c2 b2
      generalize hx3 : l.getD (4 * k + 3) 0 = x3 at c3 b3
      have HX : Aside0 (wordAt l k = word x0 x1 x2 x3) := ⟨by unfold wordAt; rw [hx0, hx1, hx2, hx3]⟩
      clear hx0 hx1 hx2 hx3
      obtain ⟨b00, b01⟩ := b0
      obtain ⟨b10, b11⟩ := b1
      obtain ⟨b20, b21⟩ := b2
      obtain ⟨b30, b31⟩ := b3
      have ca := HA.out.cell k (by omega)
      have cf := HA.out.free k
      have m0 : IntKind.i64.wrap (4 * (k : Int)) = 4 * (k : Int) := by rw [IntKind.wrap_i64]; omega
      have m1 : IntKind.i64.wrap (4 * (k : Int) + 1) = 4 * (k : Int) + 1 := by rw [IntKind.wrap_i64]; omega
      have m2 : IntKind.i64.wrap (4 * (k : Int) + 2) = 4 * (k : Int) + 2 := by rw [IntKind.wrap_i64]; omega
      have m3 : IntKind.i64.wrap (4 * (k : Int) + 3) = 4 * (k : Int) + 3 := by rw [IntKind.wrap_i64]; omega
      have n0 : (4 * (k : Int)).toNat = 4 * k := by omega
      have n1 : (4 * (k : Int) + 1).toNat = 4 * k + 1 := by omega
      have n2 : (4 * (k : Int) + 2).toNat = 4 * k + 2 := by omega
      have n3 : (4 * (k : Int) + 3).toNat = 4 * k + 3 := by omega
      have p0 : 0 ≤ 4 * (k : Int) := by omega
      have p1 : 0 ≤ 4 * (k : Int) + 1 := by omega
      have p2 : 0 ≤ 4 * (k : Int) + 2 := by omega
      have p3 : 0 ≤ 4 * (k : Int) + 3 := by omega
      have q0 : 4 * (k : Int) < 64 := by omega
      have q1 : 4 * (k : Int) + 1 < 64 := by omega
      have q2 : 4 * (k : Int) + 2 < 64 := by omega
      have q3 : 4 * (k : Int) + 3 < 64 := by omega
      have q4 : (k : Int) < 64 := by omega
      have p4 : 0 ≤ (k : Int) := by omega
      go_wp2_with fail
      go_still_tail 35, (by kernel_rfl)
      change wpList _ _ _ _ _ wr.drew
      have ca' : wr.drew.cell? ⟨w.heap.size, k, none⟩ = _ := ca
      have cf' : wr.drew.frozen? ⟨w.heap.size, k, none⟩ = _ := cf
      have HW := Aside0.mk (word_bits x0 x1 x2 x3 b00 b01 b10 b11 b20 b21 b30 b31)
      clear m0 m1 m2 m3 n0 n1 n2 n3 p0 p1 p2 p3 q0 q1 q2 q3 q4 p4 ca cf c0 c1 c2 c3
      go_wp2_with fail
      go_roundw
      case rel =>
        refine ⟨k + 1, by omega, by go_num, ⟨?_⟩, ⟨?_⟩⟩
        · refine ((HA.out.drew).set k _).congr (fun j hj => ?_)
          by_cases hjk : j = k
          · subst hjk
            simp only [if_true, Nat.lt_succ_self]
            rw [HW.out, HX.out]
          · simp only [hjk, if_false]
            by_cases h2 : j < k
            · rw [if_pos h2, if_pos (by omega)]
            · rw [if_neg h2, if_neg (by omega)]
        · exact (HB.out.drew).setCell (p := ⟨w.heap.size, k, none⟩) (Nat.le_refl _) _
      case measure => simp [intOf]; omega
    · obtain rfl : k = 16 := by omega
      go_wp2_with fail
      have HA1 := Aside0.mk (HA.out.congr (g := fun j => if j < 16 then U (W (wordAt l) j) else 0) (fun j _ => by
        by_cases h : j < 16
        · simp only [if_pos h, W_low _ _ h]
        · simp only [if_neg h]))
      clear HA HC HY
      go_loopw [5] (fun i wr => ∃ k : Nat, 16 ≤ k ∧ k ≤ 64 ∧ i = .int .i64 k ∧ Aside0 (Arr wr w.heap.size 120 64 (fun j => if j < k then U (W (wordAt l) j) else 0)) ∧ Aside0 (Below w.heap.size w wr)) (fun i _ => 64 - (intOf i).toNat)
      case atStart => exact ⟨16, by omega, by omega, rfl, HA1, HB⟩
      case round =>
        clear HA1 HB
        obtain ⟨k, hk0, hk, rfl, HA, HB⟩ := hrel
        by_cases hlt : k < 64
        · obtain ⟨k15, h15⟩ : ∃ q : Nat, k = q + 15 := ⟨k - 15, by omega⟩
          obtain ⟨k16, h16⟩ : ∃ q : Nat, k = q + 16 := ⟨k - 16, by omega⟩
          obtain ⟨k2, h2⟩ : ∃ q : Nat, k = q + 2 := ⟨k - 2, by omega⟩
          obtain ⟨k7, h7⟩ : ∃ q : Nat, k = q + 7 := ⟨k - 7, by omega⟩
          have HS : Aside0 (W (wordAt l) k = W (wordAt l) k16 + sg0 (W (wordAt l) k15) + W (wordAt l) k7 + sg1 (W (wordAt l) k2)) := ⟨by
            rw [W_high _ _ (by omega), show k - 16 = k16 by omega, show k - 15 = k15 by omega, show k - 7 = k7 by omega, show k - 2 = k2 by omega]⟩
          have s15 : IntKind.i64.wrap ((k : Int) - 15) = (k15 : Int) := by rw [IntKind.wrap_i64]; omega
          have s16 : IntKind.i64.wrap ((k : Int) - 16) = (k16 : Int) := by rw [IntKind.wrap_i64]; omega
          have s2 : IntKind.i64.wrap ((k : Int) - 2) = (k2 : Int) := by rw [IntKind.wrap_i64]; omega
          have s7 : IntKind.i64.wrap ((k : Int) - 7) = (k7 : Int) := by rw [IntKind.wrap_i64]; omega
          have l15 : (k15 : Int) < 64 := by omega
          have l16 : (k16 : Int) < 64 := by omega
          have l2 : (k2 : Int) < 64 := by omega
          have l7 : (k7 : Int) < 64 := by omega
          have lk : (k : Int) < 64 := by omega
          have c15 := HA.out.cell k15 (by omega)
          have c16 := HA.out.cell k16 (by omega)
          have c2 := HA.out.cell k2 (by omega)
          have c7 := HA.out.cell k7 (by omega)
          have ck := HA.out.cell k (by omega)
          have cf := HA.out.free k
          rw [if_pos (by omega)] at c15 c16 c2 c7
          rw [if_neg (by omega)] at ck
          have H15 := Aside0.mk h15
          have H16 := Aside0.mk h16
          have H2 := Aside0.mk h2
          have H7 := Aside0.mk h7
          clear h15 h16 h2 h7
          generalize W (wordAt l) k15 = X15 at c15 HS
          generalize W (wordAt l) k16 = X16 at c16 HS
          generalize W (wordAt l) k2 = X2 at c2 HS
          generalize W (wordAt l) k7 = X7 at c7 HS
          go_wp2_with fail
          go_quiet (fail)
          go_wp2_with (go_at_call 91; refine (rot_any _ _ (by decide) (by decide) _).mono ?_; rintro e w' ⟨rfl, rfl⟩)
          rw [sg0_bits, sg1_bits]
          have d16 : (wr.drewN nq).cell? ⟨w.heap.size, k16, none⟩ = _ := c16
          have d7 : (wr.drewN nq).cell? ⟨w.heap.size, k7, none⟩ = _ := c7
          have dk : (wr.drewN nq).cell? ⟨w.heap.size, k, none⟩ = _ := ck
          have df : (wr.drewN nq).frozen? ⟨w.heap.size, k, none⟩ = _ := cf
          have HA2 := Aside0.mk (HA.out.drewN nq)
          have HB2 := Aside0.mk (pw_below_drewN HB.out nq)
          clear c15 c16 c2 c7 ck cf HA HB
          generalize wr.drewN nq = wq at d16 d7 dk df HA2 HB2 ⊢
          go_still_tail 15, (by kernel_rfl)
          change wpList _ _ _ _ _ wq.drew
          have ck' : wq.drew.cell? ⟨w.heap.size, k, none⟩ = _ := dk
          have cf' : wq.drew.frozen? ⟨w.heap.size, k, none⟩ = _ := df
          clear s15 s16 s2 s7 l15 l16 l2 l7 lk d16 d7 dk df
          go_wp2_with fail
          go_roundw
          case rel =>
            repeat apply Exists.intro
            refine ⟨?_, rfl⟩
            refine ⟨k + 1, by omega, by omega, by go_num, ⟨?_⟩, ⟨?_⟩⟩
            · refine ((HA2.out.drew).set k _).congr (fun j hj => ?_)
              by_cases hjk : j = k
              · subst hjk
                show (if j = j then _ else _) = (if j < j + 1 then _ else _)
                rw [if_pos rfl, if_pos (Nat.lt_succ_self _)]
                rw [U_add4, HS.out]
              · simp only [hjk, if_false]
                by_cases h2 : j < k
                · rw [if_pos h2, if_pos (by omega)]
                · rw [if_neg h2, if_neg (by omega)]
            · exact (HB2.out.drew).setCell (p := ⟨w.heap.size, k, none⟩) (Nat.le_refl _) _
          case measure => simp [intOf]; omega
        · obtain rfl : k = 64 := by omega
          go_wp2_with fail
          go_ret
          exact ⟨rfl, HA.out.congr (fun j hj => if_pos hj), HB.out⟩
end Go.Proofs.Ytlekeiokdmnboaa.Dig
