/- The program's digest of bytes: what it returns, in plain words. -/
-- FOREIGN loop.example/g00244/impl.Digest making=1 rounds=1
import Derived.Test.YtlekeiokdmnboaaPa0
import Derived.Test.YtlekeiokdmnboaaPa6
import Derived.Test.YtlekeiokdmnboaaDigB
import Derived.Test.YtlekeiokdmnboaaDigE
import Derived.Outline
namespace Go.Proofs.Ytlekeiokdmnboaa.Pa
open Go.RowKit Go.Proofs.YtlekeiokdmnboaaW.PrintWords Go.Proofs.YtlekeiokdmnboaaW.PrintLast Go.Proofs.YtlekeiokdmnboaaW.PrintMore
attribute [local go_sem] max2_int min2_int max_two min_two max_three min_three max_four min_four   -- for this text's walks alone
def impl_Digest.f (k : Nat) (l0 : List Int) : Option ByteArray := (impl_Padded.f k l0).bind fun p => if Sha.WholeB p then some (strOfNums (Sha.outUpTo (Sha.digest8 p) 8)) else none
theorem impl_Digest.mono : ∀ a0 k, LeO (impl_Digest.f k a0) (impl_Digest.f (k + 1) a0) := fun a0 k => LeO.bind (impl_Padded.mono a0 k) (fun _ => LeO.refl _)
open Go.Shelf
attribute [local go_sem] Oper.semAt_some
set_option maxHeartbeats 2000000 in
set_option maxRecDepth 100000 in
theorem impl_Digest.calls (k : Nat) (A0 : Option Addr) (c0 : Nat) (l0 : List Int) (r : ByteArray) (w : World) (hr0 : Kd.C (Kd.int .u8) w A0 l0.length l0) (hc0 : l0.length ≤ c0) (h : impl_Digest.f k l0 = some r) :
    Calls Try.prog 37 #[.slice A0 l0.length c0] w fun e w' => e = .returned (.string r) ∧ Below w.heap.size w w' := by
  obtain ⟨p, hp, h⟩ := Option.bind_eq_some_iff.1 h
  by_cases hw : Sha.WholeB p
  · rw [if_pos hw] at h
    obtain rfl := Option.some.inj h
    clear h
    have HP := Aside0.mk hp
    have HR := Aside0.mk hr0
    have HW := Aside0.mk hw
    have HC := Aside0.mk hc0
    clear hp hr0 hw hc0
    refine (callsIn_wide (n := 6)).1 ?_
    have t1 : Fence.wide.fn 65 := trivial
    have t2 : Fence.wide.fn 67 := trivial
    have t3 : Fence.wide.fn 66 := trivial
    have t4 : Fence.wide.fn 68 := trivial
    have t5 : Fence.wide.fn 88 := trivial
    refine callsIn_of_wp_marks Try.func37 rfl trivial ?_ rfl
    simp only [Try.ntmps37, List.size_toArray, List.length_cons, List.length_nil, Nat.reduceAdd, Nat.reduceSub, Array.replicate_succ, Array.replicate_zero, List.push_toArray, List.append_toArray, List.nil_append, List.cons_append]
    gi_wp2_with (gi_at_call 65; refine (callsIn_wide.2 (Dig.rounds_calls _)).mono ?_; rintro e w1 ⟨rfl, hk1, hb1⟩; have HK1 := Aside0.mk hk1; have HB1 := Aside0.mk hb1; clear hk1 hb1)
    -- what lies behind the constants
    have hW0 := heap_alloc_new w (.cells #[.int .u32 1779033703, .int .u32 3144134277, .int .u32 1013904242, .int .u32 2773480762, .int .u32 1359893119, .int .u32 2600822924, .int .u32 528734635, .int .u32 1541459225] 92)
    have hs0 : (w.alloc (.cells #[.int .u32 1779033703, .int .u32 3144134277, .int .u32 1013904242, .int .u32 2773480762, .int .u32 1359893119, .int .u32 2600822924, .int .u32 528734635, .int .u32 1541459225] 92)).heap.size = w.heap.size + 1 := by simp
    have hB1 := HB1.out
    rw [hs0] at hB1
    have hk1 := HK1.out
    rw [hs0] at hk1
    have ha := below_alloc (Below.refl w1.heap.size w1) (.cells #[.pointer (some ⟨w.heap.size + 1, 0, none⟩)] 93)
    have hsz1 : w.heap.size + 1 < w1.heap.size := hk1.lt
    have HH2 := Aside0.mk (show Dig.Arr8 (w1.alloc (.cells #[.pointer (some ⟨w.heap.size + 1, 0, none⟩)] 93)) w.heap.size Sha.first from (ha.block _ (by omega)).trans ((hB1.block _ (by omega)).trans hW0))
    have HK2 := Aside0.mk (hk1.below ha)
    have HV2 := Aside0.mk (heap_alloc_new w1 (.cells #[.pointer (some ⟨w.heap.size + 1, 0, none⟩)] 93))
    have HB2 := Aside0.mk (show Below w.heap.size w (w1.alloc (.cells #[.pointer (some ⟨w.heap.size + 1, 0, none⟩)] 93)) from (((Below.refl w.heap.size w).alloc (Nat.le_refl _) _).trans (hB1.mono (by omega))).trans (ha.mono (by omega)))
    have HZ2 : Aside0 (w1.heap.size < (w1.alloc (.cells #[.pointer (some ⟨w.heap.size + 1, 0, none⟩)] 93)).heap.size) := ⟨by simp⟩
    have HL1 := Aside0.mk hsz1
    clear hW0 hs0 hB1 hk1 ha hsz1 HK1 HB1
    generalize hkv : w1.heap.size = kv at HV2 HZ2 HL1 ⊢
    clear hkv
    generalize w1.alloc (.cells #[.pointer (some ⟨w.heap.size + 1, 0, none⟩)] 93) = W2 at HH2 HK2 HV2 HB2 HZ2 ⊢
    refine (callsIn_wide.2 (impl_Padded.calls k A0 c0 l0 p W2 (Kd.C_below HR.out HB2.out) HC.out HP.out)).mono ?_
    rintro e w3 ⟨v, rfl, ho, hb3⟩
    obtain ⟨g, cap, cur, rfl, hlc, hg, hgr, hcur⟩ := Dig.byte_row ho HW.out.2.1
    have HG3 := Aside0.mk hgr
    have HH3 := Aside0.mk (show Dig.Arr8 w3 w.heap.size Sha.first from (hb3.block _ HH2.out.lt).trans HH2.out)
    have HK3 := Aside0.mk (HK2.out.below hb3)
    have HV3 := Aside0.mk ((hb3.block kv HZ2.out).trans HV2.out)
    have HB3 := Aside0.mk (HB2.out.trans (hb3.mono HB2.out.size))
    have HZ3 : Aside0 (kv < w3.heap.size ∧ g < w3.heap.size ∧ kv < g) := ⟨Nat.lt_of_lt_of_le HZ2.out hb3.size, (Array.getElem?_eq_some_iff.1 hgr).1, Nat.lt_of_lt_of_le HZ2.out hg⟩
    have HCU := Aside0.mk hcur
    have HLC := Aside0.mk hlc
    clear ho hlc hg hgr hcur hb3 HH2 HK2 HV2 HB2 HZ2
    dsimp only
    gi_wp2_with (gi_at_call 66; refine (callsIn_wide.2 (Dig.chunk_calls _ _ _ _)).mono ?_; rintro e w' ⟨rfl, rfl⟩)
    have e1 := below_alloc (Below.refl w3.heap.size w3) (.cells #[.slice (some ⟨g, 0, none⟩) p.length cap] 36)
    have e2 := below_alloc e1 (.cells #[.int .i64 64] 3)
    have hs1 : (w3.alloc (.cells #[.slice (some ⟨g, 0, none⟩) p.length cap] 36)).heap.size = w3.heap.size + 1 := by simp
    have HS4 := Aside0.mk ((Below.heap_alloc _ (.cells #[.int .i64 64] 3) w3.heap.size (by rw [hs1]; omega)).trans (heap_alloc_new w3 (.cells #[.slice (some ⟨g, 0, none⟩) p.length cap] 36)))
    have hn4 := heap_alloc_new (w3.alloc (.cells #[.slice (some ⟨g, 0, none⟩) p.length cap] 36)) (.cells #[.int .i64 64] 3)
    rw [hs1] at hn4
    have HN4 := Aside0.mk hn4
    have HH4 := Aside0.mk (show Dig.Arr8 _ w.heap.size Sha.first from (e2.block _ HH3.out.lt).trans HH3.out)
    have HK4 := Aside0.mk (HK3.out.below e2)
    have HV4 := Aside0.mk ((e2.block kv HZ3.out.1).trans HV3.out)
    have HG4 := Aside0.mk ((e2.block g HZ3.out.2.1).trans HG3.out)
    have HB4 := Aside0.mk (HB3.out.trans (e2.mono HB3.out.size))
    have HZ4 := Aside0.mk (show w3.heap.size + 1 < ((w3.alloc (.cells #[.slice (some ⟨g, 0, none⟩) p.length cap] 36)).alloc (.cells #[.int .i64 64] 3)).heap.size by simp)
    have HO4 := Aside0.mk (show w.heap.size + 1 < w3.heap.size by have := HZ3.out.1; have := HL1.out; omega)
    clear e1 e2 hs1 hn4 HH3 HK3 HV3 HG3 HB3
    generalize hsb : w3.heap.size = sb at HS4 HN4 HZ4 HO4 HZ3 ⊢
    generalize (w3.alloc (.cells #[.slice (some ⟨g, 0, none⟩) p.length cap] 36)).alloc (.cells #[.int .i64 64] 3) = W4 at HS4 HN4 HH4 HK4 HV4 HG4 HB4 HZ4 ⊢
    clear hsb
    have HM : Aside0 (p.length = 64 * (p.length / 64)) := ⟨by have := HW.out.1; omega⟩
    have hmle : 64 * (p.length / 64) ≤ 140737488355328 := by have := HW.out.2.2.1; omega
    have hcap : 64 * (p.length / 64) ≤ cap := by have := HLC.out; omega
    refine wpIn_rangeFunc_ownF (F := Fence.wide) rfl (by omega) (gf := 88) (lb := #[.pointer (some ⟨sb, 0, none⟩), .pointer (some ⟨sb + 1, 0, none⟩)]) rfl trivial (enters_of Try.func88 (by kernel_rfl) rfl)
      (Dig.chunk_stops 5 sb (sb + 1) g (p.length / 64) p.length cap (by omega) hmle hcap HM.out W4 (Nat.lt_of_succ_lt HZ4.out) HZ4.out HS4.out HN4.out) (fun h k => Dig.keeps2_t h k) (Dig.keeps2_b (Nat.lt_of_succ_lt HZ4.out) HZ4.out) (Below.refl _ _) (fun _ => rfl)
      (fun pre W => (Dig.Arr8 W w.heap.size (pre.foldl (fun h (x : Fin (p.length / 64)) => Sha.block h (Sha.chunk p x.1)) Sha.first) ∧ Dig.Arr W (w.heap.size + 1) 120 64 (fun j => Sha.U (Sha.K j)) ∧ W.heap[kv]? = some (.cells #[.pointer (some ⟨w.heap.size + 1, 0, none⟩)] 93 (0, 0)) ∧ W.heap[g]? = some (.cells cur 5 (0, 0)) ∧
        W.heap[sb]? = some (.cells #[.slice (some ⟨g, 0, none⟩) p.length cap] 36 (0, 0)) ∧ W.heap[sb + 1]? = some (.cells #[.int .i64 64] 3 (0, 0))) ∧ Below w.heap.size w W)
      (fun _ _ _ => False)
      (OwnFrom.and (Own.from (fun s A B row hs hg hr => ⟨Dig.blk_own hs.1 hg hr, Dig.blk_own hs.2.1 hg hr, Dig.blk_own hs.2.2.1 hg hr, Dig.blk_own hs.2.2.2.1 hg hr, Dig.blk_own hs.2.2.2.2.1 hg hr, Dig.blk_own hs.2.2.2.2.2 hg hr⟩) _) (ownFrom_below (Nat.le_refl _) HB4.out.size))
      (fun _ _ _ _ _ hs _ _ => hs)
      ⟨⟨HH4.out, HK4.out, HV4.out, HG4.out, HS4.out, HN4.out⟩, HB4.out⟩
      (fun x => { tmps := #[.slice A0 l0.length c0, undef, .string ⟨#[]⟩, .pointer (some ⟨w.heap.size, 0, none⟩), .pointer (some ⟨kv, 0, none⟩), .slice (some ⟨g, 64 * x.1, none⟩) 64 64, undef, undef, undef,
        .agg #[.int .u32 1779033703, .int .u32 3144134277, .int .u32 1013904242, .int .u32 2773480762, .int .u32 1359893119, .int .u32 2600822924, .int .u32 528734635, .int .u32 1541459225], .pointer (some ⟨w.heap.size + 1, 0, none⟩), .slice A0 l0.length c0, .slice (some ⟨g, 0, none⟩) p.length cap,
        .func (.func 88) #[] #[.pointer (some ⟨sb, 0, none⟩), .pointer (some ⟨sb + 1, 0, none⟩)], .slice (some ⟨g, 64 * x.1, none⟩) 64 64, undef, undef, undef, undef, undef, undef, undef, undef, undef, undef, undef, undef, undef, undef, undef, undef, undef, undef, undef, undef, undef, undef, undef, undef], defers := [] }) ?assign ?body ?done ?stop
    case assign =>
      intro l x W K hK
      gi_wp2
      exact hK
    case body =>
      rintro l pre x W ⟨⟨h1, h2, h3, h4, h5, h6⟩, hB⟩ _
      have hkc : W.cell? ⟨kv, 0, none⟩ = some (.pointer (some ⟨w.heap.size + 1, 0, none⟩)) := by simp [World.cell?, h3]
      have hcell : ∀ j, j < 64 → W.cell? ⟨g, 64 * x.1 + j, none⟩ = some (.int .u8 ((Sha.chunk p x.1).getD j 0)) := fun j hj => by
        rw [Sha.chunk_getD _ _ _ hj]
        simp only [World.cell?, h4]
        exact HCU.out _ (by have := x.2; omega)
      have hT := Dig.turn_calls w.heap.size (w.heap.size + 1) g (64 * x.1) 64 _ (Sha.chunk p x.1) W h1 h2 hcell (fun j => Sha.chunk_byte p HW.out.2.2.2 x.1 j)
      have HT := Aside0.mk hT
      have G1 := Aside0.mk h1
      have G2 := Aside0.mk h2
      have G3 := Aside0.mk h3
      have G4 := Aside0.mk h4
      have G5 := Aside0.mk h5
      have G6 := Aside0.mk h6
      have GB := Aside0.mk hB
      clear h1 h2 h3 h4 h5 h6 hB hT hcell
      gi_wp2_with (gi_at_call 68; refine (CallsIn.inRound l (callsIn_wide.2 HT.out)).mono ?_; rintro e w' ⟨rfl, hA, hgr⟩; have GA := Aside0.mk hA; have GG := Aside0.mk hgr; clear hA hgr)
      have hgr := GG.out
      refine ⟨KeepsOthers.of_grownBy hgr (fun j o e ho => by cases e; have := G1.out; unfold Dig.Arr8 at this; rw [this] at ho; cases ho; rfl), ⟨hgr.block _ (Array.getElem?_eq_some_iff.1 G5.out).1 (fun e => by have := HO4.out; cases e; omega), hgr.block _ (Array.getElem?_eq_some_iff.1 G6.out).1 (fun e => by have := HO4.out; injection e; omega)⟩, ⟨?_, ?_, ?_, ?_, ?_, ?_⟩, ?_⟩
      · rw [List.foldl_append]; exact GA.out
      · exact (hgr.block _ G2.out.lt (fun e => by injection e; omega)).trans G2.out
      · exact (hgr.block _ (Array.getElem?_eq_some_iff.1 G3.out).1 (fun e => by have := HL1.out; cases e; omega)).trans G3.out
      · exact (hgr.block _ (Array.getElem?_eq_some_iff.1 G4.out).1 (fun e => by have := HL1.out; have := HZ3.out.2.2; cases e; omega)).trans G4.out
      · exact (hgr.block _ (Array.getElem?_eq_some_iff.1 G5.out).1 (fun e => by have := HO4.out; cases e; omega)).trans G5.out
      · exact (hgr.block _ (Array.getElem?_eq_some_iff.1 G6.out).1 (fun e => by have := HO4.out; injection e; omega)).trans G6.out
      · exact GB.out.grown hgr GB.out.size (fun k e => by cases e; exact Nat.le_refl _)
    case done =>
      rintro D ys W hD rfl ⟨⟨h1, _, _, _, _, _⟩, hB⟩ hK
      rw [Dig.fold_range (p.length / 64) (fun h j => Sha.block h (Sha.chunk p j)) Sha.first] at h1
      have h1' : Dig.Arr8 W w.heap.size (Sha.digest8 p) := h1
      generalize hSS : Sha.digest8 p = S at h1' ⊢
      have HSS := Aside0.mk hSS
      clear hSS
      obtain ⟨d0, d1, d2, d3, d4, d5, d6, d7⟩ := h1'.cells
      have hinfo : (Try.prog.info? 5).map (fun i => (i.zero, i.size, i.bytes)) = some (some (.int .u8 0), 1, 1) := by kernel_rfl
      obtain ⟨i0, hi0, hzz⟩ := Option.map_eq_some_iff.1 hinfo
      simp only [Prod.mk.injEq] at hzz
      obtain ⟨hz0, hz1, hz2⟩ := hzz
      have HI := Aside0.mk hi0
      have HZ0 := Aside0.mk hz0
      have HZ1 := Aside0.mk hz1
      have HZ2 := Aside0.mk hz2
      clear hinfo hi0 hz0 hz1 hz2
      have HKD := Aside0.mk hK
      have HB5 := Aside0.mk hB
      have HLD : Aside0 (D < W.heap.size) := ⟨(Array.getElem?_eq_some_iff.1 hK).1⟩
      have HD5 : Aside0 (w.heap.size ≤ D) := ⟨Nat.le_trans HB4.out.size hD⟩
      clear h1 h1' hB hK hD
      gi_wp2
      gi_loopw [6, 19] (fun v i wr => ∃ q : Nat, q ≤ 8 ∧ i = .int .i64 q ∧ Aside0 (wr.ownsRow W.heap.size 5 1 v (4 * q) (nums .u8 (Sha.outUpTo S q))) ∧ Aside0 (Below w.heap.size w wr) ∧ Aside0 (W.heap.size ≤ wr.heap.size) ∧ Aside0 (wr.heap[D]? = some (.deferred (some [])))) (fun _ i _ => 8 - (intOf i).toNat)
      case atStart => exact ⟨0, by omega, rfl, ⟨World.ownsRow_nil _ _ _ _⟩, HB5, ⟨Nat.le_refl _⟩, HKD⟩
      case round =>
        obtain ⟨q, hk, rfl, HO, HB, HS, HK⟩ := hrel
        by_cases hlt : q < 8
        · have hidx : ∀ wx : World, (Instr.index 92 (.agg #[.int .u32 (Sha.U S.a), .int .u32 (Sha.U S.b), .int .u32 (Sha.U S.c), .int .u32 (Sha.U S.d), .int .u32 (Sha.U S.e), .int .u32 (Sha.U S.f), .int .u32 (Sha.U S.g), .int .u32 (Sha.U S.h)]) (.int .i64 (q : Int))).run Try.prog wx = .ok (.int .u32 (Sha.U (S.get q))) wx := by
            intro wx
            rcases q with _ | _ | _ | _ | _ | _ | _ | _ | q
            · kernel_rfl
            · kernel_rfl
            · kernel_rfl
            · kernel_rfl
            · kernel_rfl
            · kernel_rfl
            · kernel_rfl
            · kernel_rfl
            · omega
          generalize hX : S.get q = X at hidx
          have HX := Aside0.mk hX
          clear hX
          gi_wp2_with (gi_at_builtin; refine wpListIn_append_own _ rfl (.tmp 22) (.tmp 34) 36 rfl W.heap.size 5 i0 (.int .u8 0) 1 1 Try.underlying36 HI.out HZ0.out HZ1.out HZ2.out rfl (by decide) _ (4 * q) _ rfl (HO.out.alloc _) ⟨wr.heap.size, 0, none⟩ 4 4 [.int .u8 (Sha.U X / 16777216 % 256), .int .u8 (Sha.U X / 65536 % 256), .int .u8 (Sha.U X / 256 % 256), .int .u8 (Sha.U X % 256)] rfl rfl ?c1 ?c2 ?c3 ?c4 ?c5 ?_; (case c1 => exact World.news_of_block (cs := #[.int .u8 (Sha.U X / 16777216 % 256), .int .u8 (Sha.U X / 65536 % 256), .int .u8 (Sha.U X / 256 % 256), .int .u8 (Sha.U X % 256)]) (t := 5) (fr := (0, 0)) (heap_alloc_new wr _)); (case c2 => simp [Value.oneCell']); (case c3 => simp only [maxLen]; omega); (case c4 => omega); (case c5 => have := HS.out; simp; omega); intro v' w1 hown' hg _; have HO1 := Aside0.mk hown'; have HG1 := Aside0.mk hg; clear hown' hg)
          have hg := HG1.out
          have hS1 : W.heap.size ≤ (wr.alloc (.cells #[.int .u8 (Sha.U X / 16777216 % 256), .int .u8 (Sha.U X / 65536 % 256), .int .u8 (Sha.U X / 256 % 256), .int .u8 (Sha.U X % 256)] 5)).heap.size := by have := HS.out; simp; omega
          go_roundw
          case rel =>
            refine ⟨q + 1, by omega, by go_num, ⟨?_⟩, ⟨?_⟩, ⟨?_⟩, ⟨?_⟩⟩
            · have e : nums .u8 (Sha.outUpTo S (q + 1)) = nums .u8 (Sha.outUpTo S q) ++ [.int .u8 (Sha.U X / 16777216 % 256), .int .u8 (Sha.U X / 65536 % 256), .int .u8 (Sha.U X / 256 % 256), .int .u8 (Sha.U X % 256)] := by
                unfold Sha.outUpTo
                rw [List.range_succ, List.flatMap_append, nums_append]
                congr 1
                simp [Sha.bytes4, nums, HX.out]
              rw [e]
              exact HO1.out
            · exact (HB.out.alloc HB.out.size _).grown hg (by have := HB5.out.size; omega) (fun j ej => Nat.le_trans HB5.out.size (own_base HO.out j ej))
            · exact Nat.le_trans hS1 hg.size
            · refine (hg.block D (Nat.lt_of_lt_of_le HLD.out hS1) (fun ej => ?_)).trans ((Below.heap_alloc wr _ D (Nat.lt_of_lt_of_le HLD.out HS.out)).trans HK.out)
              have := own_base HO.out D ej.symm
              have := HLD.out
              omega
          case measure => simp [intOf]; omega
        · obtain rfl : q = 8 := by omega
          have hcv := own_string (P := Try.prog) (w := wr) (src := 36) (dst := 9) (e := 5) Try.underlying36 Try.underlying5 Try.underlying9 HO.out
          gi_wp2
          refine ⟨by simp, .inl ⟨_, _, rfl, run_takeDeferred HK.out, ?_⟩⟩
          refine ⟨_, results_tmp rfl _ _ _, by rw [HSS.out]; rfl, ?_⟩
          exact HB.out.grown (grownBy_putObj' _ D (.deferred none)) HB.out.size (fun j ej => by cases ej; exact HD5.out)
    case stop =>
      rintro D c pre W _ _ h _
      exact h.elim
  · rw [if_neg hw] at h
    cases h
end Go.Proofs.Ytlekeiokdmnboaa.Pa
