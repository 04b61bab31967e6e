/- THE STATEMENT SplayAsks: questions change no later result; at most 200 steps. No condition. -/
import Derived.Test.YtblopfgnhokocaaRows
import Derived.WalkKit
import Derived.ProofKit
import Derived.OpenShut
import Derived.Below
import Derived.Carry
import Derived.ChangeOld
import Derived.Lib.SmallJoins
import Derived.Test.YtblopfgnhokocaaO
import Derived.Test.YtblopfgnhokocaaLt
import Derived.Deep.RegionHeld3
set_option linter.unusedSimpArgs false
set_option linter.unusedVariables false
namespace Go.Proofs.Ytblopfgnhokocaa.splayAsks
open Go.ChangeShapes Go.WideShapes Go.ChangeAt Go.RowKit Go.Joins
open P
theorem own : ownKnob Try.prog.godebug = none := by kernel_rfl
theorem laidOut : laidOutB Try.prog = true := by kernel_rfl

set_option maxHeartbeats 4000000 in
set_option maxRecDepth 100000 in
theorem walk (a0 : Option Addr) (n0 c0 b0 : Nat) (f0 : Nat → Nat → Int) (w : World) (w0 : Recs w b0 a0 n0 4 (fun j => if j = 0 then .u8 else if j = 1 then .u8 else if j = 2 then .u8 else .i64) f0) (q0 : n0 ≤ c0 ∧ c0 ≤ maxLen) :
    Calls Try.prog 12 #[.slice a0 n0 c0] w fun e w' => e = .returned (.bool true) ∧ Below w.heap.size w w' := by
  have HQ : Hid (n0 ≤ maxLen) := by show _ ≤ _; omega
  unfold maxLen at q0
  have HN := Lib.hid (new_any 40 w (by unfold In64; omega))
  rw [show newE 40 = 0 from rfl] at HN
  have OK := Lib.hid (ok_play ok_new f0)
  have W1 : Hid (Recs w b0 a0 n0 4 actK f0) := w0
  obtain ⟨o, ho⟩ : ∃ o, newS 40 = o := ⟨_, rfl⟩
  have HO := Lib.hid ho
  rw [ho] at HN OK
  clear w0 ho
  go_enter Try.func12, Try.ntmps12
  go_wp2_with fail
  refine HN.out.mono ?_
  rintro e w1 ⟨v, rfl, hP, hb⟩
  obtain ⟨p, rfl⟩ : ∃ p, v = (.pointer (some ⟨p, 0, none⟩)) := by
    obtain ⟨L, V, e, -⟩ := OK.out 0
    have e : o = some (L, V) := e
    rw [e] at hP
    exact hP.some_ptr
  have B1 := Lib.hid hb
  obtain ⟨lo, hlo⟩ : ∃ lo, w.heap.size = lo := ⟨_, rfl⟩
  obtain ⟨hi, hhi⟩ : ∃ hi, w1.heap.size = hi := ⟨_, rfl⟩
  have LO := Lib.hid hlo
  rw [hhi, hlo] at hP
  have P1 : Hid (PSo w1 lo hi (.pointer (some ⟨p, 0, none⟩)) (playN o f0 0)) := hP
  have s1 : hi ≤ w1.heap.size := by omega
  clear hP hb hhi hlo HN
  go_wp2_with fail
  go_loopw [5] (fun k_ wr => ∃ (k : Nat), k_ = .int .i64 k ∧ k ≤ n0 ∧ k ≤ 200 ∧ Hid (PSo wr lo hi (.pointer (some ⟨p, 0, none⟩)) (playN o f0 k)) ∧ Hid (Below w.heap.size w wr) ∧ hi ≤ wr.heap.size) (fun k_ _ => 200 - (intOf k_).toNat)
  case atStart => exact ⟨0, rfl, Nat.zero_le _, Nat.zero_le _, P1, B1, s1⟩
  case round =>
    obtain ⟨k, rfl, hk, hk2, HP, HB, hsz⟩ := hrel
    clear P1 B1 s1
    by_cases hgo : k < n0 ∧ k < 200
    · obtain ⟨hlt, hl2⟩ := hgo
      have i1 : (k : Int) < n0 := by omega
      have i2 : (k : Int) < 200 := by omega
      have i0 : (0 : Int) ≤ k := by omega
      obtain ⟨off, ha, act⟩ := acts_at W1.out hlt
      subst ha
      have AF : Hid (∀ W, Below w.heap.size w W → ActAt W b0 (off + k * 4) (f0 k 0) (f0 k 1) (f0 k 2) (f0 k 3)) := by
        intro W hW
        obtain ⟨off', e', act'⟩ := acts_at (W1.out.below (by decide) hW) hlt
        injection e' with e'; injection e' with _ e'
        rwa [← e'] at act'
      obtain ⟨d, hd⟩ : ∃ d, f0 k 0 = d := ⟨_, rfl⟩
      obtain ⟨x, hx⟩ : ∃ d, f0 k 1 = d := ⟨_, rfl⟩
      obtain ⟨y, hy⟩ : ∃ d, f0 k 2 = d := ⟨_, rfl⟩
      obtain ⟨z, hz⟩ : ∃ d, f0 k 3 = d := ⟨_, rfl⟩
      have FS : Hid (playN o f0 (k + 1) = doS (playN o f0 k) d x y z) := by subst hd hx hy hz; rfl
      rw [hd, hx, hy, hz] at AF act
      have hact := AF.out _ HB.out
      have c0 := hact.c0
      have c1 := hact.c1
      have c2 := hact.c2
      have x0 := act.hx
      have y0 := act.hy
      have d0 := act.hd
      have D64 : Hid (In64 d) := by show In64 d; unfold In64; omega
      have ACT := Lib.hid act
      have OKK := Lib.hid (OK.out k)
      obtain ⟨q, hq⟩ : ∃ q, playN o f0 k = q := ⟨_, rfl⟩
      rw [hq] at HP FS OKK
      have x1 : 0 ≤ x := x0.1
      have y1 : 0 ≤ y := y0.1
      clear hact act hd hx hy hz hq x0 y0
      go_wp2_with fail
      go_region
      have P2 := Lib.hid (HP.out.below (Below.drew (Below.refl _ _)))
      have B2 : Hid (Below w.heap.size w wr.drew) := Below.drew HB.out
      have s2 : hi ≤ wr.drew.heap.size := hsz
      clear HP HB hsz c0 c1 c2
      go_wp2_with fail
      refine (pos_so P2.out _).mono ?_
      rintro e w3 ⟨rfl, hP, hm⟩
      have P3 := Lib.hid hP
      have B3 : Hid (Below w.heap.size w w3) := Mod.below B2.out hm (by rw [LO.out]; exact Nat.le_refl _) B2.out.size
      have s3 : hi ≤ w3.heap.size := Nat.le_trans s2 hm.size
      clear hP hm P2 B2 s2 
      go_wp2_with fail
      refine (min_so P3.out _).mono ?_
      rintro e w4 ⟨rfl, hP, hm⟩
      have P4 := Lib.hid hP
      have B4 : Hid (Below w.heap.size w w4) := Mod.below B3.out hm (by rw [LO.out]; exact Nat.le_refl _) B3.out.size
      have s4 : hi ≤ w4.heap.size := Nat.le_trans s3 hm.size
      clear hP hm P3 B3 s3 
      have c0 := (AF.out _ B4.out).c0
      go_wp2_with fail
      refine (at_so P4.out _ _ D64.out).mono ?_
      rintro e w5 ⟨rfl, hP, hm⟩
      have P5 := Lib.hid hP
      have B5 : Hid (Below w.heap.size w w5) := Mod.below B4.out hm (by rw [LO.out]; exact Nat.le_refl _) B4.out.size
      have s5 : hi ≤ w5.heap.size := Nat.le_trans s4 hm.size
      clear hP hm P4 B4 s4 
      clear c0
      go_wp2_with fail
      refine (sum_so P5.out _).mono ?_
      rintro e w6 ⟨rfl, hP, hm⟩
      have P6 := Lib.hid hP
      have B6 : Hid (Below w.heap.size w w6) := Mod.below B5.out hm (by rw [LO.out]; exact Nat.le_refl _) B5.out.size
      have s6 : hi ≤ w6.heap.size := Nat.le_trans s5 hm.size
      clear hP hm P5 B5 s5 
      go_wp2_with fail
      refine (list_so P6.out _).mono ?_
      rintro e w7 ⟨bb, aa, mm, cc, rfl, -, -, hP, hm⟩
      have P7 := Lib.hid hP
      have B7 : Hid (Below w.heap.size w w7) := Mod.below B6.out hm (by rw [LO.out]; exact Nat.le_refl _) B6.out.size
      have s7 : hi ≤ w7.heap.size := Nat.le_trans s6 hm.size
      clear hP hm P6 B6 s6
      go_wp2_with fail
      refine (same_so P7.out _ _).mono ?_
      rintro e w8 ⟨rfl, hP, hm⟩
      have P8 := Lib.hid hP
      have B8 : Hid (Below w.heap.size w w8) := Mod.below B7.out hm (by rw [LO.out]; exact Nat.le_refl _) B7.out.size
      have s8 : hi ≤ w8.heap.size := Nat.le_trans s7 hm.size
      clear hP hm P7 B7 s7 
      go_wp2_with fail
      refine (len_so P8.out _).mono ?_
      rintro e w9 ⟨rfl, hP, hm⟩
      have P9 := Lib.hid hP
      have B9 : Hid (Below w.heap.size w w9) := Mod.below B8.out hm (by rw [LO.out]; exact Nat.le_refl _) B8.out.size
      have s9 : hi ≤ w9.heap.size := Nat.le_trans s8 hm.size
      clear hP hm P8 B8 s8 
      go_wp2_with fail
      refine (copy_so P9.out).mono ?_
      rintro e w10 ⟨v2, rfl, -, hb⟩
      have P10 := Lib.hid (P9.out.below hb)
      have B10 := hb_trans' B9 hb B9.out.size
      have s10 : hi ≤ w10.heap.size := Nat.le_trans s9 hb.size
      clear hb P9 B9 s9
      have act := AF.out _ B10.out
      have c0 := act.c0
      have c1 := act.c1
      have c2 := act.c2
      have c3 := act.c3
      clear act
      go_wp2_with fail
      refine (do_ok P10.out OKK.out s10 d x y z ACT.out.hz ACT.out.hd ACT.out.hx ACT.out.hy).mono ?_
      rintro e w11 ⟨rfl, hP, hm⟩
      have P11 : Hid (PSo w11 lo hi (.pointer (some ⟨p, 0, none⟩)) (playN o f0 (k + 1))) := by rw [FS.out]; exact hP
      have B11 : Hid (Below w.heap.size w w11) := Mod.below B10.out hm (by rw [LO.out]; exact Nat.le_refl _) B10.out.size
      have s11 : hi ≤ w11.heap.size := Nat.le_trans s10 hm.size
      clear hP hm P10 B10 s10 c0 c1 c2 c3 FS AF
      go_wp2
      go_roundw
      case rel => exact ⟨k + 1, by go_num, by omega, by omega, P11, B11, s11⟩
      case measure => simp [intOf]; omega
    · have hkm : k = min n0 200 := by omega
      have HPL := Lib.hid (played_any (c := c0) (W1.out.below (by decide) HB.out) HQ.out)
      obtain ⟨L, V, hE, hV⟩ := OK.out k
      rw [HO.out, ← hkm, hE] at HPL
      rw [hE] at HP
      have HV := Lib.hid hV
      have hend : (k < n0 ∧ ¬ k < 200) ∨ ¬ k < n0 := by omega
      clear hkm hE hV W1
      rcases hend with ⟨h1, h2⟩ | h1
      case' inl =>
        have i1 : (k : Int) < n0 := by omega
        have i2 : ¬ (k : Int) < 200 := by omega
      case' inr =>
        have i1 : ¬ (k : Int) < n0 := by omega
      all_goals
        clear hgo
        obtain ⟨ko, rfl⟩ : ∃ ko, ko = k := ⟨_, rfl⟩
        go_wp2_with fail
        refine HPL.out.mono ?_
        rintro e w2 ⟨v2, rfl, hC, hb⟩
        obtain ⟨p2, rfl⟩ := hC.some_ptr
        obtain ⟨lo2, hlo2⟩ : ∃ lo2, wr.heap.size = lo2 := ⟨_, rfl⟩
        obtain ⟨hi2, hhi2⟩ : ∃ hi2, w2.heap.size = hi2 := ⟨_, rfl⟩
        have P2 := Lib.hid (HP.out.below hb)
        have B2 := hb_trans' HB hb HB.out.size
        have s2 : hi2 ≤ w2.heap.size := by omega
        have LH : Hid (hi ≤ lo2) := by show _ ≤ _; omega
        have LO2 : Hid (w.heap.size ≤ lo2) := by have := HB.out.size; show _ ≤ _; omega
        rw [hlo2, hhi2] at hC
        have C2 := Lib.hid hC
        have PT : Hid (Part 40 L) := by have := P2.out.part; rwa [HV.out] at this
        have LL : Hid (∀ x, x < 40 → (lst L x).length ≤ 65536) := by
          intro x hx
          have := PT.out.len_le (PT.out.lst hx).1
          omega
        clear hb hC HP HB hsz hlo2 hhi2 HPL
        go_wp2_with fail
        go_loopw [9] (fun x_ wr => ∃ (x : Nat), x_ = .int .i64 x ∧ x ≤ 40 ∧ Hid (PSo wr lo hi (.pointer (some ⟨p, 0, none⟩)) (some (L, V))) ∧ Hid (PSo wr lo2 hi2 (.pointer (some ⟨p2, 0, none⟩)) (some (L, V))) ∧ Hid (Below w.heap.size w wr) ∧ hi2 ≤ wr.heap.size) (fun x_ _ => 40 - (intOf x_).toNat)
        case atStart => exact ⟨0, rfl, Nat.zero_le _, P2, C2, B2, s2⟩
        case round =>
          obtain ⟨x, rfl, hx, P3, C3, B3, s3⟩ := hrel
          clear P2 C2 B2 s2
          by_cases hx2 : x < 40
          · have hx3 : (x : Int) < 40 := by omega
            have HX : Hid (x < V.length) := by show _ < _; rw [HV.out]; exact hx2
            have LX := Lib.hid (LL.out x hx2)
            obtain ⟨vx, hvx⟩ : ∃ vx, V.getD x 0 = vx := ⟨_, rfl⟩
            have HVX : Hid (∀ W lo hi v, PSo W lo hi v (some (L, V)) → Calls Try.prog 30 #[v, .int .i64 x] W (Sp W lo hi v (some (L, V)) (.int .i64 vx))) := by
              intro W lo hi v hW
              have := value40 hW x HX.out
              rwa [hvx] at this
            have KS : Hid (∀ W (b n c : Nat) a (b' n' c' : Nat) a', Ints W b a n c (nums (lst L x)) → Ints W b' a' n' c' (nums (lst L x)) → Calls Try.prog 21 #[.slice a n c, .slice a' n' c'] W fun e w' => e = .returned (.bool true) ∧ Below W.heap.size W w') := by
              intro W b n c a b' n' c' a' h1 h2
              have := samen_any h1 h2 LX.out LX.out
              rwa [decide_eq_true rfl] at this
            clear hvx
            go_wp2_with fail
            refine (HVX.out _ _ _ _ P3.out).mono ?_
            rintro e w4 ⟨rfl, hP, hm⟩
            have P4 := Lib.hid hP
            have C4 := Lib.hid (C3.out.mod hm (.inr LH.out))
            have B4 : Hid (Below w.heap.size w w4) := Mod.below B3.out hm (by rw [LO.out]; exact Nat.le_refl _) B3.out.size
            have s4 : hi2 ≤ w4.heap.size := Nat.le_trans s3 hm.size
            clear hP hm P3 C3 B3 s3 
            go_wp2_with fail
            refine (HVX.out _ _ _ _ C4.out).mono ?_
            rintro e w5 ⟨rfl, hP, hm⟩
            have C5 := Lib.hid hP
            have P5 := Lib.hid (P4.out.mod hm (.inl LH.out))
            have B5 : Hid (Below w.heap.size w w5) := Mod.below B4.out hm (LO2.out) B4.out.size
            have s5 : hi2 ≤ w5.heap.size := Nat.le_trans s4 hm.size
            clear hP hm P4 C4 B4 s4 
            go_wp2_with fail
            refine (listc40 P5.out x HX.out).mono ?_
            rintro e w6 ⟨bE, aE, mE, cE, rfl, hI, ⟨hmcE, hbb⟩, hP, hm⟩
            have P6 := Lib.hid hP
            have C6 := Lib.hid (C5.out.mod hm (.inr LH.out))
            have B6 : Hid (Below w.heap.size w w6) := Mod.below B5.out hm (by rw [LO.out]; exact Nat.le_refl _) B5.out.size
            have s6 : hi2 ≤ w6.heap.size := Nat.le_trans s5 hm.size
            have E6 := Lib.hid hI
            have SEE : Hid (0 < mE → hi2 ≤ bE) := fun h => Nat.le_trans s5 (hbb h)
            clear hI hbb hP hm P5 C5 B5 s5 
            go_wp2_with fail
            refine (listc40 C6.out x HX.out).mono ?_
            rintro e w7 ⟨bF, aF, mF, cF, rfl, hI, ⟨hmcF, hbb⟩, hP, hm⟩
            have C7 := Lib.hid hP
            have P7 := Lib.hid (P6.out.mod hm (.inl LH.out))
            have B7 : Hid (Below w.heap.size w w7) := Mod.below B6.out hm (LO2.out) B6.out.size
            have s7 : hi2 ≤ w7.heap.size := Nat.le_trans s6 hm.size
            have F7 := Lib.hid hI
            have SF : Hid (0 < mF → hi2 ≤ bF) := fun h => Nat.le_trans s6 (hbb h)
            have E7 := Lib.hid (E6.out.mod hm (fun h => .inr (SEE.out h)))
            clear hI hbb hP hm P6 C6 B6 s6 E6
            go_wp2_with fail
            refine (KS.out _ _ _ _ _ _ _ _ _ E7.out F7.out).mono ?_
            rintro e w8 ⟨rfl, hb⟩
            have P8 := Lib.hid (P7.out.below hb)
            have C8 := Lib.hid (C7.out.below hb)
            have B8 := hb_trans' B7 hb B7.out.size
            have s8 : hi2 ≤ w8.heap.size := Nat.le_trans s7 hb.size
            clear hb P7 C7 B7 s7 E7 F7
            go_wp2
            go_roundw
            case rel => exact ⟨x + 1, by go_num, by omega, P8, C8, B8, s8⟩
            case measure => simp [intOf]; omega
          · have hx3 : ¬ (x : Int) < 40 := by omega
            clear hx2
            go_wp2_with fail
            refine (works_any _).mono ?_
            rintro e w99 ⟨rfl, hb99⟩
            have B99 := hb_trans' B3 hb99 B3.out.size
            clear hb99
            go_wp2
            go_ret
            exact ⟨rfl, B99.out⟩

set_option maxRecDepth 100000 in
theorem lifted (os : Os) (started : os.Started) (H : Type) (enc : TypeId × Value → H) :
    ReturnsInHanded {} Try.checked os 12 .any (Rows.splayAsksSpec.pre6 enc Try.prog Try.f12 Rows.splayAsksRow.domain false) (Rows.splayAsksSpec.post enc Try.prog Try.f12 false true false false) := by
  refine returnsInHanded_of_change (C := Try.checked) own started (by kernel_rfl) Try.func12
    (ChangeSpec.witness6 (enc := enc) (C := Try.checked) false ⟨#[], #[.slice none 0 0], []⟩ 8 (by kernel_rfl) (by kernel_rfl) (by kernel_rfl) (by kernel_rfl)) ?_
  intro W base args ds gs before hval0 hW hcnd _
  have hval : ∀ (j : Nat) t v, Try.f12.params[j]? = some t → args[j]? = some v → Value.okWide Try.prog W .any base t v := hval0
  have hW' := hW
  obtain ⟨p, q, hA0, hV, rfl, hfz, hnd⟩ := hW
  have hA : DataW.TrodAll enc Try.prog W 0 (fun _ => true) true Try.f12.params.toList args.toList ds p := hA0
  rw [Try.params12] at hA hval
  obtain ⟨v0, vs0, d0, ds0, p0, q0, hargs, rfl, rfl, h0, r0⟩ := trodAll_cons hA
  obtain ⟨rfl, rfl, rfl⟩ := trodAll_nil r0
  obtain rfl : args = #[v0] := by cases args; simp_all
  obtain ⟨rfl, rfl⟩ := trodVars_none hV
  have k0 := h0
  have lt0 : ∀ x ∈ p0, x.block < W.heap.size := by obtain ⟨m, hm⟩ := k0; exact DataW.trod_lt m _ _ _ hm
  obtain ⟨a0, n0, c0, b0, f0, rfl, w0, x0, y0⟩ := opn_recs (kd := fun j => if j = 0 then .u8 else if j = 1 then .u8 else if j = 2 then .u8 else .i64) Try.underlying22 Try.underlying58 (by kernel_rfl) (by kernel_rfl) (by decide) (by
    intro j f hj
    have hjl : j < 4 := by simpa using (Array.getElem?_eq_some_iff.1 hj).1
    match j, hjl, hj with
    | 0, _, hj => simp at hj; subst hj; exact Try.underlying5
    | 1, _, hj => simp at hj; subst hj; exact Try.underlying5
    | 2, _, hj => simp at hj; subst hj; exact Try.underlying5
    | 3, _, hj => simp at hj; subst hj; exact Try.underlying2
    ) (hval 0 22 v0 rfl rfl) h0
  clear hA0 hval0
  refine (walk a0 n0 c0 b0 f0 W w0 ⟨x0, y0⟩).mono fun e W' ⟨he, bel⟩ => ?_
  subst he
  exact ⟨_, rfl, _, _, _, [], _, [], hW', trodAll_mk1 (shut_bool Try.underlying4 _), (trodAll_cons_mk (Below.trod laidOut (by kernel_rfl) (of_decide_eq_true (by kernel_rfl)) k0 bel lt0) trodAll_mk0), rfl, bel.frame _, fun h => by cases h⟩

theorem over : Rows.splayAsksRow.holds Try.pinned (OpenSpec.ofChange Rows.splayAsksSpec) :=
  OpenClaim.holds_of_wide 12 Try.f12 rfl rfl rfl rfl rfl rfl rfl ⟨rfl, rfl, rfl, rfl, rfl⟩ rfl rfl rfl rfl rfl (by kernel_rfl) Try.func12 (by kernel_rfl)
    (of_decide_eq_true (by kernel_rfl)) (by unfold Func.isWrapper; first | (rw [if_pos (by decide +kernel)]; kernel_rfl) | (rw [if_neg (by decide +kernel)]; exact ⟨rfl, rfl⟩))
    (fun os started H enc _ => lifted os started H enc)

/-- The statement. -/
theorem proved : Rows.SplayAsksSaid :=
  over
#print axioms proved
end Go.Proofs.Ytblopfgnhokocaa.splayAsks
