/- THE STATEMENT SplayTurns: reversing a sequence turns its order round, and nothing else; at most 200 steps. No condition. -/
import Derived.Test.YtblopfgnhokocaaRows
import Derived.WalkKit
import Derived.ProofKit
import Derived.OpenShut
import Derived.Below
import Derived.Carry
import Derived.ChangeOld
import Derived.Lib.SmallJoins
import Derived.Test.YtblopfgnhokocaaO
import Derived.Test.YtblopfgnhokocaaS5
import Derived.Deep.RegionHeld3
import Derived.IntWalk
set_option linter.unusedSimpArgs false
set_option linter.unusedVariables false
namespace Go.Proofs.Ytblopfgnhokocaa.splayTurns
open Go.ChangeShapes Go.WideShapes Go.ChangeAt Go.RowKit Go.Joins
open P
theorem own : ownKnob Try.prog.godebug = none := by kernel_rfl
theorem laidOut : laidOutB Try.prog = true := by kernel_rfl

set_option maxHeartbeats 4000000 in
set_option maxRecDepth 100000 in
theorem walk (a0 : Option Addr) (n0 c0 b0 : Nat) (f0 : Nat → Nat → Int) (a1 : Int) (a2 : Int) (w : World) (w0 : Recs w b0 a0 n0 4 (fun j => if j = 0 then .u8 else if j = 1 then .u8 else if j = 2 then .u8 else .i64) f0) (q0 : n0 ≤ c0 ∧ c0 ≤ maxLen) (w1 : (Lit.int .u8 a1).wf = true) (w2 : (Lit.int .u8 a2).wf = true) :
    Calls Try.prog 6 #[.slice a0 n0 c0, .int .u8 a1, .int .u8 a2] w fun e w' => e = .returned (.bool true) ∧ Below w.heap.size w w' := by
  unfold maxLen at q0
  have HPL := Lib.hid (played_any (c := c0) (f := f0) w0 (by unfold maxLen; omega))
  obtain ⟨L, V, ho, hV⟩ := ok_play ok_new f0 (min n0 200)
  rw [ho] at HPL
  have HV := Lib.hid hV
  obtain ⟨hu0, hu1⟩ := wf_u8 w1
  obtain ⟨ht0, ht1⟩ := wf_u8 w2
  obtain ⟨x, hxe⟩ : ∃ x : Nat, (a1 % 40 : Int) = x := ⟨(a1 % 40).toNat, by omega⟩
  obtain ⟨y, hye⟩ : ∃ y : Nat, (a2 % 40 : Int) = y := ⟨(a2 % 40).toNat, by omega⟩
  have hx40 : x < 40 := by omega
  have hy40 : y < 40 := by omega
  have HX : Hid (x < V.length) := by show _ < _; rw [hV]; exact hx40
  have HY : Hid (y < V.length) := by show _ < _; rw [hV]; exact hy40
  have XE := Lib.hid hxe
  have YE := Lib.hid hye
  clear w0 q0 hV ho hxe hye w1 w2
  go_enter Try.func6, Try.ntmps6
  go_wp2_with fail
  refine HPL.out.mono ?_
  rintro e w1 ⟨v, rfl, hP, hb⟩
  obtain ⟨p, rfl⟩ := hP.some_ptr
  have pt : Part 40 L := by have := hP.part; rwa [HV.out] at this
  have PTL := Lib.hid pt
  have B1 := Lib.hid hb
  obtain ⟨lo, hlo⟩ : ∃ lo, w.heap.size = lo := ⟨_, rfl⟩
  obtain ⟨hi, hhi⟩ : ∃ hi, w1.heap.size = hi := ⟨_, rfl⟩
  have LO := Lib.hid hlo
  rw [hhi, hlo] at hP
  have P1 := Lib.hid hP
  have s1 : hi ≤ w1.heap.size := by omega
  clear hP hb hhi HPL pt hlo
  have TT := Lib.hid (PTL.out.turned (y := y) hx40)
  have TO := Lib.hid (fun h => PTL.out.same_other hx40 hy40 h)
  have hxm := (PTL.out.lst hx40).2
  have hl40 := PTL.out.len_le (PTL.out.lst hx40).1
  have hr40 := PTL.out.len_le (PTL.out.lst hy40).1
  have hnd := PTL.out.lnodup (PTL.out.lst hx40).1
  have hl0 : 0 < (lst L x).length := List.length_pos_of_mem hxm
  have h00 := getD_lt hl0
  have h0n := PTL.out.lt (PTL.out.lst hx40).1 h00
  have hall : ∀ z ∈ lst L x, z < 40 := fun z hz => PTL.out.lt (PTL.out.lst hx40).1 hz
  have tm := TT.out.m
  have tm2 := TT.out.m2
  have tp2 := TT.out.p2
  have to := TO.out
  obtain ⟨l, hl⟩ : ∃ l, lst L x = l := ⟨_, rfl⟩
  obtain ⟨r, hr⟩ : ∃ r, lst L y = r := ⟨_, rfl⟩
  obtain ⟨M, hM⟩ : ∃ M, revL L x = M := ⟨_, rfl⟩
  rw [hl] at hxm hl40 hnd hl0 h00 h0n hall tm tm2 tp2 to
  rw [hr] at hr40 to
  rw [hM] at tm tm2 tp2 to
  obtain ⟨f, hf⟩ : ∃ f, l.getD 0 0 = f := ⟨_, rfl⟩
  rw [hf] at h00 h0n tm2 tp2 to
  obtain ⟨K, hK⟩ : ∃ K, revL M f = K := ⟨_, rfl⟩
  rw [hK] at tm2 tp2 to
  have TM := Lib.hid tm
  have TM2 := Lib.hid tm2
  have TP2 := Lib.hid tp2
  have TO2 := Lib.hid to
  have HL := Lib.hid hl
  have HR := Lib.hid hr
  have HM := Lib.hid hM
  have HK := Lib.hid hK
  have HF := Lib.hid hf
  have XM := Lib.hid hxm
  have ND := Lib.hid hnd
  have FM := Lib.hid h00
  have FN : Hid (f < V.length) := by show _ < _; rw [HV.out]; exact h0n
  have ALL : Hid (∀ z ∈ l, z < V.length) := by intro z hz; rw [HV.out]; exact hall z hz
  clear TT TO tm tm2 tp2 to hl hr hM hf hK hxm hnd h00 h0n hall
  go_wp2_with fail
  rw [XE.out]
  refine (listc40 P1.out x HX.out).mono ?_
  rintro e w2 ⟨bI, aI, mI, cI, rfl, hI, ⟨hmcI, hbb⟩, hP, hm⟩
  have P2 := Lib.hid hP
  have B2 : Hid (Below w.heap.size w w2) := Mod.below B1.out hm (by rw [LO.out]; exact Nat.le_refl _) B1.out.size
  have s2 : hi ≤ w2.heap.size := Nat.le_trans s1 hm.size
  have I2 := Lib.hid hI
  have SI : Hid (0 < mI → bI < lo ∨ hi ≤ bI) := fun h => .inr (Nat.le_trans s1 (hbb h))
  clear hI hbb hP hm P1 B1 s1 
  rw [HL.out] at I2
  have LEN : l.length = mI := by have := I2.out.1; simpa [nums] using this
  rw [LEN] at hl40 hl0
  have HLEN := Lib.hid LEN
  clear LEN
  go_wp2_with fail
  rw [YE.out]
  refine (listc40 P2.out y HY.out).mono ?_
  rintro e w3 ⟨bJ, aJ, mJ, cJ, rfl, hI, ⟨hmcJ, hbb⟩, hP, hm⟩
  have P3 := Lib.hid hP
  have B3 : Hid (Below w.heap.size w w3) := Mod.below B2.out hm (by rw [LO.out]; exact Nat.le_refl _) B2.out.size
  have s3 : hi ≤ w3.heap.size := Nat.le_trans s2 hm.size
  have J3 := Lib.hid hI
  have SJ : Hid (0 < mJ → bJ < lo ∨ hi ≤ bJ) := fun h => .inr (Nat.le_trans s2 (hbb h))
  have I3 := Lib.hid (I2.out.mod hm SI.out)
  clear hI hbb hP hm P2 B2 s2 I2
  rw [HR.out] at J3
  have RLEN : r.length = mJ := by have := J3.out.1; simpa [nums] using this
  rw [RLEN] at hr40
  have HRLEN := Lib.hid RLEN
  have b0 : (mI == 0) = false := by simp; omega
  have b00 : ((mI : Int) == 0) = false := by simp; omega
  clear RLEN
  have HC1 : Hid (∀ W, PSo W lo hi (.pointer (some ⟨p, 0, none⟩)) (some (L, V)) → Calls Try.prog 26 #[(.pointer (some ⟨p, 0, none⟩)), .int .i64 x] W (Sp W lo hi (.pointer (some ⟨p, 0, none⟩)) (some (M, V)) (.int .i64 0))) := by
    intro W hW
    have := reverse40 hW x HX.out
    rwa [HM.out] at this
  go_wp2_with fail
  refine (HC1.out _ P3.out).mono ?_
  rintro e w4 ⟨rfl, hP, hm⟩
  have P4 := Lib.hid hP
  have B4 : Hid (Below w.heap.size w w4) := Mod.below B3.out hm (by rw [LO.out]; exact Nat.le_refl _) B3.out.size
  have s4 : hi ≤ w4.heap.size := Nat.le_trans s3 hm.size
  have I4 := Lib.hid (I3.out.mod hm SI.out)
  have J4 := Lib.hid (J3.out.mod hm SJ.out)
  clear hP hm P3 B3 s3 I3 J3
  clear HC1 b0 b00
  have HC1 : Hid (∀ W, PSo W lo hi (.pointer (some ⟨p, 0, none⟩)) (some (M, V)) → Calls Try.prog 14 #[(.pointer (some ⟨p, 0, none⟩)), .int .i64 x] W (GivesC W lo hi (.pointer (some ⟨p, 0, none⟩)) (some (M, V)) l.reverse)) := by
    intro W hW
    have := listc40 hW x HX.out
    rwa [TM.out x XM.out] at this
  go_wp2_with fail
  refine (HC1.out _ P4.out).mono ?_
  rintro e w5 ⟨bG, aG, mG, cG, rfl, hI, ⟨hmcG, hbb⟩, hP, hm⟩
  have P5 := Lib.hid hP
  have B5 : Hid (Below w.heap.size w w5) := Mod.below B4.out hm (by rw [LO.out]; exact Nat.le_refl _) B4.out.size
  have s5 : hi ≤ w5.heap.size := Nat.le_trans s4 hm.size
  have G5 := Lib.hid hI
  have SG : Hid (0 < mG → bG < lo ∨ hi ≤ bG) := fun h => .inr (Nat.le_trans s4 (hbb h))
  have I5 := Lib.hid (I4.out.mod hm SI.out)
  have J5 := Lib.hid (J4.out.mod hm SJ.out)
  clear hI hbb hP hm P4 B4 s4 I4 J4
  clear HC1
  have GLEN : mG = mI := by have := G5.out.1; simp [nums] at this; rw [← this, HLEN.out]
  subst GLEN
  have b0 : ((mG : Int) != mG) = false := by simp
  go_wp2_with fail
  obtain ⟨off, ha, hcI⟩ := I5.out.2.2.2 (by omega)
  obtain ⟨og, hg, hcG⟩ := G5.out.2.2.2 (by omega)
  subst ha hg
  clear hcI hcG b0
  go_loopw [13] (fun k_ wr => ∃ (k : Nat), k_ = .int .i64 k ∧ k ≤ mG ∧ Hid (PSo wr lo hi (.pointer (some ⟨p, 0, none⟩)) (some (M, V))) ∧ Hid (Below w.heap.size w wr) ∧ hi ≤ wr.heap.size ∧ Hid (Ints wr bI (some ⟨bI, off, none⟩) mG cI (nums l)) ∧ Hid (Ints wr bJ aJ mJ cJ (nums r)) ∧ Hid (Ints wr bG (some ⟨bG, og, none⟩) mG cG (nums l.reverse))) (fun k_ _ => mG - (intOf k_).toNat)
  case atStart => exact ⟨0, rfl, Nat.zero_le _, P5, B5, s5, I5, J5, G5⟩
  case round =>
    obtain ⟨k, rfl, hk, P6, B6, s6, I6, J6, G6⟩ := hrel
    clear P5 B5 s5 I5 J5 G5
    by_cases hlt : k < mG
    · have i1 : (k : Int) < mG := by omega
      have i0 : (0 : Int) ≤ k := by omega
      obtain ⟨z, hz⟩ : ∃ z, l.getD k 0 = z := ⟨_, rfl⟩
      have hkl : k < l.length := by rw [HLEN.out]; exact hlt
      have hzl : z ∈ l := by rw [← hz]; exact getD_lt hkl
      have hri := rev_idx ND.out hkl
      have hrg := rev_get hkl
      rw [hz, HLEN.out] at hri hrg
      obtain ⟨q, hq⟩ : ∃ q, mG - 1 - k = q := ⟨_, rfl⟩
      rw [hq] at hri hrg
      have hqi : (mG : Int) - 1 - k = (q : Int) := by omega
      have hqm : q < mG := by omega
      have j0 : (0 : Int) ≤ (mG : Int) - 1 - k := by omega
      have j1 : (mG : Int) - 1 - k < mG := by omega
      have HPZ : Hid (∀ W, PSo W lo hi (.pointer (some ⟨p, 0, none⟩)) (some (M, V)) → Calls Try.prog 17 #[(.pointer (some ⟨p, 0, none⟩)), .int .i64 z] W (Sp W lo hi (.pointer (some ⟨p, 0, none⟩)) (some (M, V)) (.int .i64 ((mG : Int) - 1 - k)))) := by
        intro W hW
        have := pos40 hW z (ALL.out z hzl)
        rwa [TM.out z hzl, hri, ← hqi] at this
      have CI : Hid (∀ W, Ints W bI (some ⟨bI, off, none⟩) mG cI (nums l) → W.cell? ⟨bI, off + k, none⟩ = some (.int .i64 z)) := by
        intro W hW
        obtain ⟨o', e', hc'⟩ := hW.2.2.2 (by omega)
        injection e' with e'; injection e' with _ e'
        have := hc' k hlt
        rw [e', this, nums_getD, hz]
      have CG : Hid (∀ W, Ints W bG (some ⟨bG, og, none⟩) mG cG (nums l.reverse) → W.cell? ⟨bG, og + (mG - 1 - k), none⟩ = some (.int .i64 z)) := by
        intro W hW
        obtain ⟨o', e', hc'⟩ := hW.2.2.2 (by omega)
        injection e' with e'; injection e' with _ e'
        have := hc' q hqm
        rw [hq, e', this, nums_getD, hrg]
      clear hz hkl hzl hri hrg hq hqi hqm
      go_wp2_with fail
      have P6 := Lib.hid (P6.out.below (Below.drew (Below.refl _ _)))
      have B6 : Hid (Below w.heap.size w wr.drew) := Below.drew B6.out
      have s6 : hi ≤ wr.drew.heap.size := s6
      have I6 := Lib.hid (I6.out.below (Below.drew (Below.refl _ _)))
      have J6 := Lib.hid (J6.out.below (Below.drew (Below.refl _ _)))
      have G6 := Lib.hid (G6.out.below (Below.drew (Below.refl _ _)))
      have ci := CI.out _ I6.out
      have cg := CG.out _ G6.out
      have hw1 : IntKind.i64.wrap ((mG : Int) - 1) = (mG : Int) - 1 := IntWalk.i64_in _ (by omega)
      have hw2 : IntKind.i64.wrap ((mG : Int) - 1 - k) = (mG : Int) - 1 - k := IntWalk.i64_in _ (by omega)
      have hw3 : ((mG : Int) - 1 - k).toNat = mG - 1 - k := by omega
      have hw4 : (0 : Int) ≤ (mG : Int) - 1 - k := by omega
      have hw5 : (mG : Int) - 1 - k < mG := by omega
      have hw6 : (k : Int) ≤ (mG : Int) - 1 := by omega
      have hw7 : decide ((0 : Int) ≤ (mG : Int) - 1 - k) = true := decide_eq_true (by omega)
      have hw8 : decide ((mG : Int) - 1 - k < mG) = true := decide_eq_true (by omega)
      go_region_held3 (fun w' => w'.cell? ⟨bI, off + k, none⟩ = some (.int .i64 z) ∧ w'.cell? ⟨bG, og + (mG - 1 - k), none⟩ = some (.int .i64 z)) (first | exact ⟨ci, cg⟩ | go_keep) (first
        | (go_at_call 17; go_must (refine (HPZ.out _ P6.out).mono ?_; rintro e w7 ⟨rfl, hP, hm⟩; have P7 := Lib.hid hP; have B7 : Hid (Below w.heap.size w w7) := Mod.below B6.out hm (by rw [LO.out]; exact Nat.le_refl _) B6.out.size; have s7 : hi ≤ w7.heap.size := Nat.le_trans s6 hm.size; have I7 := Lib.hid (I6.out.mod hm SI.out); have J7 := Lib.hid (J6.out.mod hm SJ.out); have G7 := Lib.hid (G6.out.mod hm SG.out); clear hP hm P6 B6 s6 I6 J6 G6; have ci := CI.out _ I7.out; have cg := CG.out _ G7.out)))
      clear hw1 hw2 hw3 hw4 hw5 hw6 hw7 hw8
      all_goals go_wp2
      all_goals go_roundw
      case rel => exact ⟨k + 1, by go_num, by omega, P7, B7, s7, I7, J7, G7⟩
      case measure => simp [intOf]; omega
    · obtain rfl : k = mG := by omega
      have hl0' : 0 < k := hl0
      have g0 : (0 : Int) < (k : Int) := by omega
      have LL : Hid (l.length ≤ 65536) := by show _ ≤ _; rw [HLEN.out]; omega
      have LR : Hid (r.length ≤ 65536) := by show _ ≤ _; rw [HRLEN.out]; omega
      have KS : Hid (∀ W (b n c : Nat) a (b' n' c' : Nat) a' (m : List Nat), m.length ≤ 65536 → Ints W b a n c (nums m) → Ints W b' a' n' c' (nums m) → Calls Try.prog 21 #[.slice a n c, .slice a' n' c'] W fun e w' => e = .returned (.bool true) ∧ Below W.heap.size W w') := by
        intro W b n c a b' n' c' a' m hm h1 h2
        have := samen_any h1 h2 hm hm
        rwa [decide_eq_true rfl] at this
      have ck : wr.cell? ⟨bI, off, none⟩ = some (.int .i64 f) := by
        obtain ⟨o', e', hc'⟩ := I6.out.2.2.2 (by omega)
        injection e' with e'; injection e' with _ e'
        have := hc' 0 (by omega)
        rw [Nat.add_zero, ← e', nums_getD, HF.out] at this
        exact this
      have HRF : Hid (∀ W, PSo W lo hi (.pointer (some ⟨p, 0, none⟩)) (some (M, V)) → Calls Try.prog 26 #[(.pointer (some ⟨p, 0, none⟩)), .int .i64 f] W (Sp W lo hi (.pointer (some ⟨p, 0, none⟩)) (some (K, V)) (.int .i64 0))) := by
        intro W hW
        have := reverse40 hW f FN.out
        rwa [HK.out] at this
      have HLK : Hid (∀ W, PSo W lo hi (.pointer (some ⟨p, 0, none⟩)) (some (K, V)) → Calls Try.prog 14 #[(.pointer (some ⟨p, 0, none⟩)), .int .i64 x] W (GivesC W lo hi (.pointer (some ⟨p, 0, none⟩)) (some (K, V)) l)) := by
        intro W hW
        have := listc40 hW x HX.out
        rwa [TM2.out] at this
      have HSK : Hid (∀ W, PSo W lo hi (.pointer (some ⟨p, 0, none⟩)) (some (K, V)) → Calls Try.prog 18 #[(.pointer (some ⟨p, 0, none⟩)), .int .i64 x, .int .i64 y] W (Sp W lo hi (.pointer (some ⟨p, 0, none⟩)) (some (K, V)) (.bool (decide (y ∈ l))))) := by
        intro W hW
        have := same40 hW x y HX.out HY.out
        rwa [TM2.out] at this
      clear hl0 G6
      go_wp2_with fail
      refine (HRF.out _ P6.out).mono ?_
      rintro e w7 ⟨rfl, hP, hm⟩
      have P7 := Lib.hid hP
      have B7 : Hid (Below w.heap.size w w7) := Mod.below B6.out hm (by rw [LO.out]; exact Nat.le_refl _) B6.out.size
      have s7 : hi ≤ w7.heap.size := Nat.le_trans s6 hm.size
      have I7 := Lib.hid (I6.out.mod hm SI.out)
      have J7 := Lib.hid (J6.out.mod hm SJ.out)
      clear hP hm P6 B6 s6 I6 J6
      clear ck
      go_wp2_with fail
      refine (HLK.out _ P7.out).mono ?_
      rintro e w8 ⟨bE, aE, mE, cE, rfl, hI, ⟨hmcE, hbb⟩, hP, hm⟩
      have P8 := Lib.hid hP
      have B8 : Hid (Below w.heap.size w w8) := Mod.below B7.out hm (by rw [LO.out]; exact Nat.le_refl _) B7.out.size
      have s8 : hi ≤ w8.heap.size := Nat.le_trans s7 hm.size
      have E8 := Lib.hid hI
      have SE : Hid (0 < mE → bE < lo ∨ hi ≤ bE) := fun h => .inr (Nat.le_trans s7 (hbb h))
      have I8 := Lib.hid (I7.out.mod hm SI.out)
      have J8 := Lib.hid (J7.out.mod hm SJ.out)
      clear hI hbb hP hm P7 B7 s7 I7 J7
      go_wp2_with fail
      refine (KS.out _ _ _ _ _ _ _ _ _ _ LL.out E8.out I8.out).mono ?_
      rintro e w9 ⟨rfl, hb⟩
      have P9 := Lib.hid (P8.out.below hb)
      have B9 := hb_trans' B8 hb B8.out.size
      have s9 : hi ≤ w9.heap.size := Nat.le_trans s8 hb.size
      have J9 := Lib.hid (J8.out.below hb)
      clear hb P8 B8 s8 I8 J8 E8
      go_wp2_with fail
      refine (HSK.out _ P9.out).mono ?_
      rintro e w10 ⟨rfl, hP, hm⟩
      have P10 := Lib.hid hP
      have B10 : Hid (Below w.heap.size w w10) := Mod.below B9.out hm (by rw [LO.out]; exact Nat.le_refl _) B9.out.size
      have s10 : hi ≤ w10.heap.size := Nat.le_trans s9 hm.size
      have J10 := Lib.hid (J9.out.mod hm SJ.out)
      clear hP hm P9 B9 s9 J9
      clear HRF HLK HSK
      by_cases hyl : y ∈ l
      · have hd : Hid (decide (y ∈ l) = true) := decide_eq_true hyl
        rw [hd.out]
        clear hyl
        go_wp2_with fail
        refine (works_any _).mono ?_
        rintro e w99 ⟨rfl, hb99⟩
        have B99 := hb_trans' B10 hb99 B10.out.size
        clear hb99
        go_wp2
        go_ret
        exact ⟨rfl, B99.out⟩
      · have hd : Hid (decide (y ∈ l) = false) := decide_eq_false hyl
        rw [hd.out]
        have hoK : lst K y = r := TO2.out hyl
        have hnK : y ∉ lst K x := by rw [TM2.out]; exact hyl
        obtain ⟨bo1, bo2, bo3⟩ := TP2.out.both hx40 hy40 hnK
        obtain ⟨Q1, hQ1⟩ : ∃ Q, joinL K x y = Q := ⟨_, rfl⟩
        obtain ⟨Q2, hQ2⟩ : ∃ Q, revL Q1 y = Q := ⟨_, rfl⟩
        obtain ⟨R1, hR1⟩ : ∃ Q, revL K x = Q := ⟨_, rfl⟩
        obtain ⟨R2, hR2⟩ : ∃ Q, revL R1 y = Q := ⟨_, rfl⟩
        obtain ⟨R3, hR3⟩ : ∃ Q, joinL R2 y x = Q := ⟨_, rfl⟩
        rw [hQ1, hQ2] at bo1
        rw [hR1, hR2] at bo2 bo3
        rw [hR3] at bo3
        obtain ⟨g, hg⟩ : ∃ g, (lst K x ++ lst K y).reverse = g := ⟨_, rfl⟩
        rw [hg] at bo1 bo3
        have LG : Hid (g.length ≤ 65536) := by
          show _ ≤ _
          rw [← hg, TM2.out, hoK, List.length_reverse, List.length_append, HLEN.out, HRLEN.out]; omega
        have HLY : Hid (∀ W, PSo W lo hi (.pointer (some ⟨p, 0, none⟩)) (some (K, V)) → Calls Try.prog 14 #[(.pointer (some ⟨p, 0, none⟩)), .int .i64 y] W (GivesC W lo hi (.pointer (some ⟨p, 0, none⟩)) (some (K, V)) r)) := by
          intro W hW
          have := listc40 hW y HY.out
          rwa [hoK] at this
        have HJ : Hid (∀ W, PSo W lo hi (.pointer (some ⟨p, 0, none⟩)) (some (K, V)) → Calls Try.prog 22 #[(.pointer (some ⟨p, 0, none⟩)), .int .i64 x, .int .i64 y] W (Sp W lo hi (.pointer (some ⟨p, 0, none⟩)) (some (Q1, V)) (.int .i64 0))) := by
          intro W hW
          have := join40 hW x y HX.out HY.out hnK
          rwa [hQ1] at this
        have HRQ : Hid (∀ W, PSo W lo hi (.pointer (some ⟨p, 0, none⟩)) (some (Q1, V)) → Calls Try.prog 26 #[(.pointer (some ⟨p, 0, none⟩)), .int .i64 y] W (Sp W lo hi (.pointer (some ⟨p, 0, none⟩)) (some (Q2, V)) (.int .i64 0))) := by
          intro W hW
          have := reverse40 hW y HY.out
          rwa [hQ2] at this
        have HLQ : Hid (∀ W, PSo W lo hi (.pointer (some ⟨p, 0, none⟩)) (some (Q2, V)) → Calls Try.prog 14 #[(.pointer (some ⟨p, 0, none⟩)), .int .i64 x] W (GivesC W lo hi (.pointer (some ⟨p, 0, none⟩)) (some (Q2, V)) g)) := by
          intro W hW
          have := listc40 hW x HX.out
          rwa [bo1] at this
        have HR1 : Hid (∀ W lo hi v, PSo W lo hi v (some (K, V)) → Calls Try.prog 26 #[v, .int .i64 x] W (Sp W lo hi v (some (R1, V)) (.int .i64 0))) := by
          intro W lo hi v hW
          have := reverse40 hW x HX.out
          rwa [hR1] at this
        have HR2 : Hid (∀ W lo hi v, PSo W lo hi v (some (R1, V)) → Calls Try.prog 26 #[v, .int .i64 y] W (Sp W lo hi v (some (R2, V)) (.int .i64 0))) := by
          intro W lo hi v hW
          have := reverse40 hW y HY.out
          rwa [hR2] at this
        have HR3 : Hid (∀ W lo hi v, PSo W lo hi v (some (R2, V)) → Calls Try.prog 22 #[v, .int .i64 y, .int .i64 x] W (Sp W lo hi v (some (R3, V)) (.int .i64 0))) := by
          intro W lo hi v hW
          have := join40 hW y x HY.out HX.out bo2
          rwa [hR3] at this
        have HLR : Hid (∀ W lo hi v, PSo W lo hi v (some (R3, V)) → Calls Try.prog 14 #[v, .int .i64 y] W (GivesC W lo hi v (some (R3, V)) g)) := by
          intro W lo hi v hW
          have := listc40 hW y HY.out
          rwa [bo3] at this
        clear hyl hd hoK hnK bo1 bo2 bo3 hQ1 hQ2 hR1 hR2 hR3 hg TM TM2 TO2 XM FM
        go_wp2_with fail
        refine (copy_so P10.out).mono ?_
        rintro e w11 ⟨v2, rfl, hC, hb⟩
        obtain ⟨p2, rfl⟩ := hC.some_ptr
        obtain ⟨lo2, hlo2⟩ : ∃ lo2, w10.heap.size = lo2 := ⟨_, rfl⟩
        obtain ⟨hi2, hhi2⟩ : ∃ hi2, w11.heap.size = hi2 := ⟨_, rfl⟩
        have P11 := Lib.hid (P10.out.below hb)
        have B11 := hb_trans' B10 hb B10.out.size
        have s11 : hi2 ≤ w11.heap.size := by omega
        have LH : Hid (hi ≤ lo2) := by show _ ≤ _; omega
        have LO2 : Hid (w.heap.size ≤ lo2) := by have := B10.out.size; show _ ≤ _; omega
        have LH2 : Hid (lo2 ≤ hi2) := by have := hb.size; show _ ≤ _; omega
        have J11 := Lib.hid (J10.out.below hb)
        have ht : Hid (hi ≤ w10.heap.size) := s10
        rw [hlo2, hhi2] at hC
        have C11 := Lib.hid hC
        clear hb hC P10 B10 s10 J10 hlo2 hhi2 ht
        go_wp2_with fail
        refine (HLY.out _ P11.out).mono ?_
        rintro e w12 ⟨bE, aE, mE, cE, rfl, hI, ⟨hmcE, hbb⟩, hP, hm⟩
        have P12 := Lib.hid hP
        have C12 := Lib.hid (C11.out.mod hm (.inr LH.out))
        have B12 : Hid (Below w.heap.size w w12) := Mod.below B11.out hm (by rw [LO.out]; exact Nat.le_refl _) B11.out.size
        have s12 : hi2 ≤ w12.heap.size := Nat.le_trans s11 hm.size
        have E12 := Lib.hid hI
        have SE : Hid (0 < mE → hi2 ≤ bE) := fun h => Nat.le_trans s11 (hbb h)
        have J12 := Lib.hid (J11.out.mod hm (SJ.out))
        clear hI hbb hP hm P11 C11 B11 s11 J11
        go_wp2_with fail
        refine (KS.out _ _ _ _ _ _ _ _ _ _ LR.out E12.out J12.out).mono ?_
        rintro e w13 ⟨rfl, hb⟩
        have P13 := Lib.hid (P12.out.below hb)
        have C13 := Lib.hid (C12.out.below hb)
        have B13 := hb_trans' B12 hb B12.out.size
        have s13 : hi2 ≤ w13.heap.size := Nat.le_trans s12 hb.size
        clear hb P12 C12 B12 s12 J12 E12
        go_wp2_with fail
        refine (HJ.out _ P13.out).mono ?_
        rintro e w14 ⟨rfl, hP, hm⟩
        have P14 := Lib.hid hP
        have C14 := Lib.hid (C13.out.mod hm (.inr LH.out))
        have B14 : Hid (Below w.heap.size w w14) := Mod.below B13.out hm (by rw [LO.out]; exact Nat.le_refl _) B13.out.size
        have s14 : hi2 ≤ w14.heap.size := Nat.le_trans s13 hm.size
        clear hP hm P13 C13 B13 s13 
        go_wp2_with fail
        refine (HRQ.out _ P14.out).mono ?_
        rintro e w15 ⟨rfl, hP, hm⟩
        have P15 := Lib.hid hP
        have C15 := Lib.hid (C14.out.mod hm (.inr LH.out))
        have B15 : Hid (Below w.heap.size w w15) := Mod.below B14.out hm (by rw [LO.out]; exact Nat.le_refl _) B14.out.size
        have s15 : hi2 ≤ w15.heap.size := Nat.le_trans s14 hm.size
        clear hP hm P14 C14 B14 s14 
        go_wp2_with fail
        refine (HR1.out _ _ _ _ C15.out).mono ?_
        rintro e w16 ⟨rfl, hP, hm⟩
        have C16 := Lib.hid hP
        have P16 := Lib.hid (P15.out.mod hm (.inl LH.out))
        have B16 : Hid (Below w.heap.size w w16) := Mod.below B15.out hm (LO2.out) B15.out.size
        have s16 : hi2 ≤ w16.heap.size := Nat.le_trans s15 hm.size
        clear hP hm P15 C15 B15 s15 
        go_wp2_with fail
        refine (HR2.out _ _ _ _ C16.out).mono ?_
        rintro e w17 ⟨rfl, hP, hm⟩
        have C17 := Lib.hid hP
        have P17 := Lib.hid (P16.out.mod hm (.inl LH.out))
        have B17 : Hid (Below w.heap.size w w17) := Mod.below B16.out hm (LO2.out) B16.out.size
        have s17 : hi2 ≤ w17.heap.size := Nat.le_trans s16 hm.size
        clear hP hm P16 C16 B16 s16 
        go_wp2_with fail
        refine (HR3.out _ _ _ _ C17.out).mono ?_
        rintro e w18 ⟨rfl, hP, hm⟩
        have C18 := Lib.hid hP
        have P18 := Lib.hid (P17.out.mod hm (.inl LH.out))
        have B18 : Hid (Below w.heap.size w w18) := Mod.below B17.out hm (LO2.out) B17.out.size
        have s18 : hi2 ≤ w18.heap.size := Nat.le_trans s17 hm.size
        clear hP hm P17 C17 B17 s17 
        go_wp2_with fail
        refine (HLQ.out _ P18.out).mono ?_
        rintro e w19 ⟨bE, aE, mE, cE, rfl, hI, ⟨hmcE, hbb⟩, hP, hm⟩
        have P19 := Lib.hid hP
        have C19 := Lib.hid (C18.out.mod hm (.inr LH.out))
        have B19 : Hid (Below w.heap.size w w19) := Mod.below B18.out hm (by rw [LO.out]; exact Nat.le_refl _) B18.out.size
        have s19 : hi2 ≤ w19.heap.size := Nat.le_trans s18 hm.size
        have E19 := Lib.hid hI
        have SEE : Hid (0 < mE → hi2 ≤ bE) := fun h => Nat.le_trans s18 (hbb h)
        clear hI hbb hP hm P18 C18 B18 s18 
        go_wp2_with fail
        refine (HLR.out _ _ _ _ C19.out).mono ?_
        rintro e w20 ⟨bF, aF, mF, cF, rfl, hI, ⟨hmcF, hbb⟩, hP, hm⟩
        have C20 := Lib.hid hP
        have P20 := Lib.hid (P19.out.mod hm (.inl LH.out))
        have B20 : Hid (Below w.heap.size w w20) := Mod.below B19.out hm (LO2.out) B19.out.size
        have s20 : hi2 ≤ w20.heap.size := Nat.le_trans s19 hm.size
        have F20 := Lib.hid hI
        have SF : Hid (0 < mF → hi2 ≤ bF) := fun h => Nat.le_trans s19 (hbb h)
        have E20 := Lib.hid (E19.out.mod hm (fun h => .inr (SEE.out h)))
        clear hI hbb hP hm P19 C19 B19 s19 E19
        go_wp2_with fail
        refine (KS.out _ _ _ _ _ _ _ _ _ _ LG.out E20.out F20.out).mono ?_
        rintro e w21 ⟨rfl, hb⟩
        have B21 := hb_trans' B20 hb B20.out.size
        clear hb P20 C20 B20 s20 E20 F20
        go_wp2_with fail
        refine (works_any _).mono ?_
        rintro e w99 ⟨rfl, hb99⟩
        have B99 := hb_trans' B21 hb99 B21.out.size
        clear hb99
        go_wp2
        go_ret
        exact ⟨rfl, B99.out⟩

set_option maxRecDepth 100000 in
theorem lifted (os : Os) (started : os.Started) (H : Type) (enc : TypeId × Value → H) :
    ReturnsInHanded {} Try.checked os 6 .any (Rows.splayTurnsSpec.pre6 enc Try.prog Try.f6 Rows.splayTurnsRow.domain false) (Rows.splayTurnsSpec.post enc Try.prog Try.f6 false true false false) := by
  refine returnsInHanded_of_change (C := Try.checked) own started (by kernel_rfl) Try.func6
    (ChangeSpec.witness6 (enc := enc) (C := Try.checked) false ⟨#[], #[.slice none 0 0, .int .u8 0, .int .u8 0], []⟩ 8 (by kernel_rfl) (by kernel_rfl) (by kernel_rfl) (by kernel_rfl)) ?_
  intro W base args ds gs before hval0 hW hcnd _
  have hval : ∀ (j : Nat) t v, Try.f6.params[j]? = some t → args[j]? = some v → Value.okWide Try.prog W .any base t v := hval0
  have hW' := hW
  obtain ⟨p, q, hA0, hV, rfl, hfz, hnd⟩ := hW
  have hA : DataW.TrodAll enc Try.prog W 0 (fun _ => true) true Try.f6.params.toList args.toList ds p := hA0
  rw [Try.params6] at hA hval
  obtain ⟨v0, vs0, d0, ds0, p0, q0, hargs, rfl, rfl, h0, r0⟩ := trodAll_cons hA
  obtain ⟨v1, vs1, d1, ds1, p1, q1, rfl, rfl, rfl, h1, r1⟩ := trodAll_cons r0
  obtain ⟨v2, vs2, d2, ds2, p2, q2, rfl, rfl, rfl, h2, r2⟩ := trodAll_cons r1
  obtain ⟨rfl, rfl, rfl⟩ := trodAll_nil r2
  obtain rfl : args = #[v0, v1, v2] := by cases args; simp_all
  obtain ⟨rfl, rfl⟩ := trodVars_none hV
  have k0 := h0
  have lt0 : ∀ x ∈ p0, x.block < W.heap.size := by obtain ⟨m, hm⟩ := k0; exact DataW.trod_lt m _ _ _ hm
  have k1 := h1
  have lt1 : ∀ x ∈ p1, x.block < W.heap.size := by obtain ⟨m, hm⟩ := k1; exact DataW.trod_lt m _ _ _ hm
  have k2 := h2
  have lt2 : ∀ x ∈ p2, x.block < W.heap.size := by obtain ⟨m, hm⟩ := k2; exact DataW.trod_lt m _ _ _ hm
  obtain ⟨a0, n0, c0, b0, f0, rfl, w0, x0, y0⟩ := opn_recs (kd := fun j => if j = 0 then .u8 else if j = 1 then .u8 else if j = 2 then .u8 else .i64) Try.underlying22 Try.underlying58 (by kernel_rfl) (by kernel_rfl) (by decide) (by
    intro j f hj
    have hjl : j < 4 := by simpa using (Array.getElem?_eq_some_iff.1 hj).1
    match j, hjl, hj with
    | 0, _, hj => simp at hj; subst hj; exact Try.underlying5
    | 1, _, hj => simp at hj; subst hj; exact Try.underlying5
    | 2, _, hj => simp at hj; subst hj; exact Try.underlying5
    | 3, _, hj => simp at hj; subst hj; exact Try.underlying2
    ) (hval 0 22 v0 rfl rfl) h0
  obtain ⟨a1, rfl, dd1, pp1, w1⟩ := open_int Try.underlying5 (hval 1 5 v1 rfl rfl) h1
  obtain ⟨a2, rfl, dd2, pp2, w2⟩ := open_int Try.underlying5 (hval 2 5 v2 rfl rfl) h2
  clear hA0 hval0
  refine (walk a0 n0 c0 b0 f0 a1 a2 W w0 ⟨x0, y0⟩ w1 w2).mono fun e W' ⟨he, bel⟩ => ?_
  subst he
  exact ⟨_, rfl, _, _, _, [], _, [], hW', trodAll_mk1 (shut_bool Try.underlying4 _), (trodAll_cons_mk (Below.trod laidOut (by kernel_rfl) (of_decide_eq_true (by kernel_rfl)) k0 bel lt0) (trodAll_cons_mk (Below.trod laidOut (by kernel_rfl) (of_decide_eq_true (by kernel_rfl)) k1 bel lt1) (trodAll_cons_mk (Below.trod laidOut (by kernel_rfl) (of_decide_eq_true (by kernel_rfl)) k2 bel lt2) trodAll_mk0))), rfl, bel.frame _, fun h => by cases h⟩

theorem over : Rows.splayTurnsRow.holds Try.pinned (OpenSpec.ofChange Rows.splayTurnsSpec) :=
  OpenClaim.holds_of_wide 6 Try.f6 rfl rfl rfl rfl rfl rfl rfl ⟨rfl, rfl, rfl, rfl, rfl⟩ rfl rfl rfl rfl rfl (by kernel_rfl) Try.func6 (by kernel_rfl)
    (of_decide_eq_true (by kernel_rfl)) (by unfold Func.isWrapper; first | (rw [if_pos (by decide +kernel)]; kernel_rfl) | (rw [if_neg (by decide +kernel)]; exact ⟨rfl, rfl⟩))
    (fun os started H enc _ => lifted os started H enc)

/-- The statement. -/
theorem proved : Rows.SplayTurnsSaid :=
  over
#print axioms proved
end Go.Proofs.Ytblopfgnhokocaa.splayTurns
