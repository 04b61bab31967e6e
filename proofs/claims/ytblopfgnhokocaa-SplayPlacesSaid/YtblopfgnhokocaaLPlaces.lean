/- THE STATEMENT SplayPlaces: each node is in its own sequence just once, at its position; at most 200 steps. No condition. -/
import Derived.Test.YtblopfgnhokocaaRows
import Derived.WalkKit
import Derived.ProofKit
import Derived.OpenShut
import Derived.Below
import Derived.Carry
import Derived.ChangeOld
import Derived.Lib.SmallJoins
import Derived.Test.YtblopfgnhokocaaO
import Derived.Test.YtblopfgnhokocaaW
import Derived.Test.YtblopfgnhokocaaS2
set_option linter.unusedSimpArgs false
set_option linter.unusedVariables false
namespace Go.Proofs.Ytblopfgnhokocaa.splayPlaces
open Go.ChangeShapes Go.WideShapes Go.ChangeAt Go.RowKit Go.Joins
open P
theorem own : ownKnob Try.prog.godebug = none := by kernel_rfl
theorem laidOut : laidOutB Try.prog = true := by kernel_rfl

set_option maxHeartbeats 4000000 in
set_option maxRecDepth 100000 in
theorem walk (a0 : Option Addr) (n0 c0 b0 : Nat) (f0 : Nat → Nat → Int) (w : World) (w0 : Recs w b0 a0 n0 4 (fun j => if j = 0 then .u8 else if j = 1 then .u8 else if j = 2 then .u8 else .i64) f0) (q0 : n0 ≤ c0 ∧ c0 ≤ maxLen) :
    Calls Try.prog 3 #[.slice a0 n0 c0] w fun e w' => e = .returned (.bool true) ∧ Below w.heap.size w w' := by
  unfold maxLen at q0
  have HPL := Lib.hid (played_any (c := c0) (f := f0) w0 (by unfold maxLen; omega))
  obtain ⟨L, V, ho, hV⟩ := ok_play ok_new f0 (min n0 200)
  rw [ho] at HPL
  have HV := Lib.hid hV
  clear w0 q0 hV ho
  go_enter Try.func3, Try.ntmps3
  go_wp2_with fail
  refine HPL.out.mono ?_
  rintro e w1 ⟨v, rfl, hP, hb⟩
  obtain ⟨p, rfl⟩ := hP.some_ptr
  have pt : Part 40 L := by have := hP.part; rwa [HV.out] at this
  have PTL := Lib.hid pt
  have B1 := Lib.hid hb
  obtain ⟨lo, hlo⟩ : ∃ lo, w.heap.size = lo := ⟨_, rfl⟩
  obtain ⟨hi, hhi⟩ : ∃ hi, w1.heap.size = hi := ⟨_, rfl⟩
  have LO := Lib.hid hlo
  rw [hhi, hlo] at hP
  have P1 := Lib.hid hP
  have s1 : hi ≤ w1.heap.size := by omega
  clear hP hb hhi HPL pt hlo
  go_wp2_with fail
  go_loopw [4] (fun x_ wr => ∃ (x : Nat), x_ = .int .i64 x ∧ x ≤ 40 ∧ Hid (PSo wr lo hi (.pointer (some ⟨p, 0, none⟩)) (some (L, V))) ∧ Hid (Below w.heap.size w wr) ∧ hi ≤ wr.heap.size) (fun x_ _ => 40 - (intOf x_).toNat)
  case atStart => exact ⟨0, rfl, Nat.zero_le _, P1, B1, s1⟩
  case round =>
    obtain ⟨x, rfl, hx, HP, HB, hsz⟩ := hrel
    clear P1 B1 s1
    by_cases hx2 : x < 40
    · have hx3 : (x : Int) < 40 := by omega
      have HX : Hid (x < V.length) := by show _ < _; rw [HV.out]; exact hx2
      go_wp2_with fail
      refine (list40 HP.out x HX.out).mono ?_
      rintro e w2 ⟨b, a, m, c, rfl, hI, hbb, hP, hm⟩
      have P2 := Lib.hid hP
      have B2 : Hid (Below w.heap.size w w2) := Mod.below HB.out hm (by rw [LO.out]; exact Nat.le_refl _) HB.out.size
      have s2 : hi ≤ w2.heap.size := Nat.le_trans hsz hm.size
      have I2 := Lib.hid hI
      have hbl : 0 < m → b < lo ∨ hi ≤ b := fun h => .inr (Nat.le_trans hsz (hbb h))
      obtain ⟨l, hl⟩ : ∃ l, lst L x = l := ⟨_, rfl⟩
      have HL := Lib.hid hl
      have LEN : l.length = m := by have := hI.1; simpa [nums, hl] using this
      have l40 : m ≤ 40 := by rw [← LEN, ← hl]; exact PTL.out.len_le (PTL.out.lst hx2).1
      rw [hl] at I2
      have HLEN := Lib.hid LEN
      have CL : Hid (∀ W, PSo W lo hi (.pointer (some ⟨p, 0, none⟩)) (some (L, V)) → Calls Try.prog 15 #[.pointer (some ⟨p, 0, none⟩), .int .i64 x] W (Sp W lo hi (.pointer (some ⟨p, 0, none⟩)) (some (L, V)) (.int .i64 m))) := by
        intro W hW
        have := len40 hW x HX.out
        rwa [hl, LEN] at this
      clear hI hbb hP hm HP HB hl LEN hsz
      go_wp2_with fail
      refine (CL.out _ P2.out).mono ?_
      rintro e w3 ⟨rfl, hP, hm⟩
      have P3 := Lib.hid hP
      have B3 : Hid (Below w.heap.size w w3) := Mod.below B2.out hm (by rw [LO.out]; exact Nat.le_refl _) B2.out.size
      have s3 : hi ≤ w3.heap.size := Nat.le_trans s2 hm.size
      have I3 := Lib.hid (I2.out.mod hm hbl)
      clear hP hm P2 B2 I2 s2 CL
      go_wp2_with fail
      go_loopw [6, 7] (fun f_ k_ wr => ∃ (k q : Nat), f_ = .int .i64 q ∧ k_ = .int .i64 k ∧ k ≤ m ∧ q ≤ k ∧ Hid ((l.take k).count x = q) ∧ Hid (PSo wr lo hi (.pointer (some ⟨p, 0, none⟩)) (some (L, V))) ∧ Hid (Below w.heap.size w wr) ∧ hi ≤ wr.heap.size ∧ Hid (Ints wr b a m c (nums l))) (fun _ k_ _ => m - (intOf k_).toNat)
      case atStart => exact ⟨0, 0, rfl, rfl, Nat.zero_le _, Nat.le_refl _, rfl, P3, B3, s3, I3⟩
      case round =>
        obtain ⟨k, q, rfl, rfl, hk, hqk, HQ, HP, HB, hsz, HI⟩ := hrel
        clear P3 B3 s3 I3
        by_cases hlt : k < m
        · have i1 : (k : Int) < m := by omega
          have i0 : (0 : Int) ≤ k := by omega
          obtain ⟨y, hy⟩ : ∃ y, l.getD k 0 = y := ⟨_, rfl⟩
          have hnode := PTL.out.node hx2 (k := k) (by rw [HL.out, HLEN.out]; exact hlt)
          rw [HL.out, hy] at hnode
          obtain ⟨y1, y2, y3⟩ := hnode
          have yl : y ∈ l := by rw [← hy]; exact getD_lt (by rw [HLEN.out]; exact hlt)
          have xl : x ∈ l := by rw [← HL.out]; exact (PTL.out.lst hx2).2
          have HY : Hid (y < V.length) := by show _ < _; rw [HV.out]; exact y1
          have CA : Hid (∀ W, PSo W lo hi (.pointer (some ⟨p, 0, none⟩)) (some (L, V)) → Calls Try.prog 16 #[.pointer (some ⟨p, 0, none⟩), .int .i64 x, .int .i64 k] W (Sp W lo hi (.pointer (some ⟨p, 0, none⟩)) (some (L, V)) (.tuple #[.int .i64 y, .bool true]))) := by
            intro W hW
            have := at40 hW x k (by unfold In64; omega) HX.out
            rw [HL.out, HLEN.out, if_pos ⟨i0, i1⟩, decide_eq_true (And.intro i0 i1), Int.toNat_natCast, hy] at this
            exact this
          have CP : Hid (∀ W, PSo W lo hi (.pointer (some ⟨p, 0, none⟩)) (some (L, V)) → Calls Try.prog 17 #[.pointer (some ⟨p, 0, none⟩), .int .i64 y] W (Sp W lo hi (.pointer (some ⟨p, 0, none⟩)) (some (L, V)) (.int .i64 k))) := by
            intro W hW
            have := pos40 hW y HY.out
            rwa [y2, y3] at this
          have CS : Hid (∀ W, PSo W lo hi (.pointer (some ⟨p, 0, none⟩)) (some (L, V)) → Calls Try.prog 18 #[.pointer (some ⟨p, 0, none⟩), .int .i64 x, .int .i64 y] W (Sp W lo hi (.pointer (some ⟨p, 0, none⟩)) (some (L, V)) (.bool true))) := by
            intro W hW
            have := same40 hW x y HX.out HY.out
            rwa [HL.out, decide_eq_true yl] at this
          have CS2 : Hid (∀ W, PSo W lo hi (.pointer (some ⟨p, 0, none⟩)) (some (L, V)) → Calls Try.prog 18 #[.pointer (some ⟨p, 0, none⟩), .int .i64 y, .int .i64 x] W (Sp W lo hi (.pointer (some ⟨p, 0, none⟩)) (some (L, V)) (.bool true))) := by
            intro W hW
            have := same40 hW y x HY.out HX.out
            rwa [y2, decide_eq_true xl] at this
          obtain ⟨off, ha, hc⟩ := HI.out.2.2.2 (by omega)
          have hgk : (nums l).getD k 0 = (y : Int) := by
            have h1 : k < l.length := by rw [HLEN.out]; exact hlt
            rw [← hy]
            simp [nums, List.getD_eq_getElem?_getD, h1]
          have FCOUNT : Hid ((l.take (k + 1)).count x = q + if y = x then 1 else 0) := by
            have h1 : k < l.length := by rw [HLEN.out]; exact hlt
            show _ = _
            rw [List.take_add_one, List.count_append, HQ.out, List.getElem?_eq_getElem h1]
            have : l[k] = y := by rw [← hy, List.getD_eq_getElem?_getD, List.getElem?_eq_getElem h1]; rfl
            simp [this, List.count_cons]
          have FC : Hid (∀ W, Ints W b (some ⟨b, off, none⟩) m c (nums l) → W.cell? ⟨b, off + k, none⟩ = some (.int .i64 y)) := by
            intro W hW
            obtain ⟨off', ha', hc'⟩ := hW.2.2.2 (by omega)
            injection ha' with ha'; injection ha' with _ ha'
            have := hc' k hlt
            rwa [← ha', hgk] at this
          subst ha
          clear y1 y2 y3 yl xl hc hgk hy HQ
          go_wp2_with fail
          refine (CA.out _ HP.out).mono ?_
          rintro e w4 ⟨rfl, hP, hm⟩
          have P4 := Lib.hid hP
          have B4 : Hid (Below w.heap.size w w4) := Mod.below HB.out hm (by rw [LO.out]; exact Nat.le_refl _) HB.out.size
          have s4 : hi ≤ w4.heap.size := Nat.le_trans hsz hm.size
          have I4 := Lib.hid (HI.out.mod hm hbl)
          have ck := FC.out _ I4.out
          clear hP hm HP HB HI hsz CA FC
          go_wp2_with fail
          refine (CP.out _ P4.out).mono ?_
          rintro e w5 ⟨rfl, hP, hm⟩
          have P5 := Lib.hid hP
          have B5 : Hid (Below w.heap.size w w5) := Mod.below B4.out hm (by rw [LO.out]; exact Nat.le_refl _) B4.out.size
          have s5 : hi ≤ w5.heap.size := Nat.le_trans s4 hm.size
          have I5 := Lib.hid (I4.out.mod hm hbl)
          clear hP hm P4 B4 I4 s4 ck CP
          go_wp2_with fail
          refine (CS.out _ P5.out).mono ?_
          rintro e w6 ⟨rfl, hP, hm⟩
          have P6 := Lib.hid hP
          have B6 : Hid (Below w.heap.size w w6) := Mod.below B5.out hm (by rw [LO.out]; exact Nat.le_refl _) B5.out.size
          have s6 : hi ≤ w6.heap.size := Nat.le_trans s5 hm.size
          have I6 := Lib.hid (I5.out.mod hm hbl)
          clear hP hm P5 B5 I5 s5 CS
          go_wp2_with fail
          refine (CS2.out _ P6.out).mono ?_
          rintro e w7 ⟨rfl, hP, hm⟩
          have P7 := Lib.hid hP
          have B7 : Hid (Below w.heap.size w w7) := Mod.below B6.out hm (by rw [LO.out]; exact Nat.le_refl _) B6.out.size
          have s7 : hi ≤ w7.heap.size := Nat.le_trans s6 hm.size
          have I7 := Lib.hid (I6.out.mod hm hbl)
          clear hP hm P6 B6 I6 s6 CS2
          by_cases hyx : y = x
          · have hb1 : ((y : Int) == (x : Int)) = true := by simp [hyx]
            have FQ : Hid ((l.take (k + 1)).count x = q + 1) := by have := FCOUNT.out; rwa [if_pos hyx] at this
            clear hyx FCOUNT
            go_wp2
            go_roundw
            case rel => exact ⟨k + 1, q + 1, by go_num, by go_num, by omega, by omega, FQ, P7, B7, s7, I7⟩
            case measure => simp [intOf]; omega
          · have hb1 : ((y : Int) == (x : Int)) = false := by simp; omega
            have FQ : Hid ((l.take (k + 1)).count x = q) := by have := FCOUNT.out; rwa [if_neg hyx] at this
            clear hyx FCOUNT
            go_wp2
            go_roundw
            case rel => exact ⟨k + 1, q, rfl, by go_num, by omega, by omega, FQ, P7, B7, s7, I7⟩
            case measure => simp [intOf]; omega
        · obtain rfl : k = m := by omega
          have CA : Hid (∀ (z : Int), z = -1 ∨ z = k → ∀ W, PSo W lo hi (.pointer (some ⟨p, 0, none⟩)) (some (L, V)) → Calls Try.prog 16 #[.pointer (some ⟨p, 0, none⟩), .int .i64 x, .int .i64 z] W (Sp W lo hi (.pointer (some ⟨p, 0, none⟩)) (some (L, V)) (.tuple #[.int .i64 0, .bool false]))) := by
            intro z hz W hW
            have hn : ¬ (0 ≤ z ∧ z < (k : Int)) := by omega
            have := at40 hW x z (by unfold In64; omega) HX.out
            rw [HL.out, HLEN.out, if_neg hn, decide_eq_false hn] at this
            exact this
          obtain rfl : q = 1 := by
            rw [← HQ.out, ← HLEN.out, List.take_length, ← HL.out]
            exact PTL.out.count hx2
          clear HQ HI
          go_wp2_with fail
          refine (CA.out _ (.inl rfl) _ HP.out).mono ?_
          rintro e w4 ⟨rfl, hP, hm⟩
          have P4 := Lib.hid hP
          have B4 : Hid (Below w.heap.size w w4) := Mod.below HB.out hm (by rw [LO.out]; exact Nat.le_refl _) HB.out.size
          have s4 : hi ≤ w4.heap.size := Nat.le_trans hsz hm.size
          clear hP hm HP HB hsz
          go_wp2_with fail
          refine (CA.out _ (.inr rfl) _ P4.out).mono ?_
          rintro e w5 ⟨rfl, hP, hm⟩
          have P5 := Lib.hid hP
          have B5 : Hid (Below w.heap.size w w5) := Mod.below B4.out hm (by rw [LO.out]; exact Nat.le_refl _) B4.out.size
          have s5 : hi ≤ w5.heap.size := Nat.le_trans s4 hm.size
          clear hP hm P4 B4 s4 CA
          go_wp2
          go_roundw
          case rel => exact ⟨x + 1, by go_num, by omega, P5, B5, s5⟩
          case measure => simp [intOf]; omega
    · have hx3 : ¬ (x : Int) < 40 := by omega
      obtain ⟨xo, rfl⟩ : ∃ xo, xo = x := ⟨_, rfl⟩
      clear hx hx2
      go_wp2_with fail
      go_loopw [14, 15] (fun c_ x_ wr => ∃ (x q : Nat), c_ = .int .i64 q ∧ x_ = .int .i64 x ∧ x ≤ 40 ∧ q ≤ x * 40 ∧ Hid (((List.range x).map (firstN L)).sum = q) ∧ Hid (PSo wr lo hi (.pointer (some ⟨p, 0, none⟩)) (some (L, V))) ∧ Hid (Below w.heap.size w wr) ∧ hi ≤ wr.heap.size) (fun _ x_ _ => 40 - (intOf x_).toNat)
      case atStart => exact ⟨0, 0, rfl, rfl, Nat.zero_le _, Nat.zero_le _, rfl, HP, HB, hsz⟩
      case round =>
        obtain ⟨x, q, rfl, rfl, hx, hq, HQ, HP1, HB1, hsz1⟩ := hrel
        clear HP HB hsz
        by_cases hx2 : x < 40
        · have hx3 : (x : Int) < 40 := by omega
          have HX : Hid (x < V.length) := by show _ < _; rw [HV.out]; exact hx2
          have FS := Lib.hid (range_step (firstN L) x)
          have l40 : (lst L x).length ≤ 40 := PTL.out.len_le (PTL.out.lst hx2).1
          obtain ⟨i, hi'⟩ : ∃ i, (lst L x).idxOf x = i := ⟨_, rfl⟩
          obtain ⟨m, hm'⟩ : ∃ i, (lst L x).length = i := ⟨_, rfl⟩
          have FF : Hid (firstN L x = if i = 0 then m else 0) := by show _ = _; unfold firstN; rw [hi', hm']
          have CP : Hid (∀ W, PSo W lo hi (.pointer (some ⟨p, 0, none⟩)) (some (L, V)) → Calls Try.prog 17 #[.pointer (some ⟨p, 0, none⟩), .int .i64 x] W (Sp W lo hi (.pointer (some ⟨p, 0, none⟩)) (some (L, V)) (.int .i64 i))) := by
            intro W hW
            have := pos40 hW x HX.out
            rwa [hi'] at this
          have CL : Hid (∀ W, PSo W lo hi (.pointer (some ⟨p, 0, none⟩)) (some (L, V)) → Calls Try.prog 15 #[.pointer (some ⟨p, 0, none⟩), .int .i64 x] W (Sp W lo hi (.pointer (some ⟨p, 0, none⟩)) (some (L, V)) (.int .i64 m))) := by
            intro W hW
            have := len40 hW x HX.out
            rwa [hm'] at this
          rw [hm'] at l40
          clear hi' hm'
          go_wp2_with fail
          refine (CP.out _ HP1.out).mono ?_
          rintro e w4 ⟨rfl, hP, hm⟩
          have P4 := Lib.hid hP
          have B4 : Hid (Below w.heap.size w w4) := Mod.below HB1.out hm (by rw [LO.out]; exact Nat.le_refl _) HB1.out.size
          have s4 : hi ≤ w4.heap.size := Nat.le_trans hsz1 hm.size
          clear hP hm HP1 HB1 hsz1 CP
          by_cases hi0 : i = 0
          · have hb1 : ((i : Int) == 0) = true := by simp [hi0]
            have FQ : Hid (((List.range (x + 1)).map (firstN L)).sum = q + m) := by show _ = _; rw [FS.out, HQ.out, FF.out, if_pos hi0]
            clear hi0 FF FS HQ
            go_wp2_with fail
            refine (CL.out _ P4.out).mono ?_
            rintro e w5 ⟨rfl, hP, hm⟩
            have P5 := Lib.hid hP
            have B5 : Hid (Below w.heap.size w w5) := Mod.below B4.out hm (by rw [LO.out]; exact Nat.le_refl _) B4.out.size
            have s5 : hi ≤ w5.heap.size := Nat.le_trans s4 hm.size
            clear hP hm P4 B4 s4 CL
            go_wp2
            go_roundw
            case rel => exact ⟨x + 1, q + m, by go_num, by go_num, by omega, by omega, FQ, P5, B5, s5⟩
            case measure => simp [intOf]; omega
          · have hb1 : ((i : Int) == 0) = false := by simp; omega
            have FQ : Hid (((List.range (x + 1)).map (firstN L)).sum = q) := by show _ = _; rw [FS.out, HQ.out, FF.out, if_neg hi0]; rfl
            clear hi0 FF FS HQ CL
            go_wp2
            go_roundw
            case rel => exact ⟨x + 1, q, rfl, by go_num, by omega, by omega, FQ, P4, B4, s4⟩
            case measure => simp [intOf]; omega
        · obtain rfl : x = 40 := by omega
          obtain rfl : q = 40 := by rw [← HQ.out]; exact PTL.out.firsts
          clear HQ
          go_wp2_with fail
          refine (works_any _).mono ?_
          rintro e w9 ⟨rfl, hb9⟩
          have B9 := hb_trans' HB1 hb9 HB1.out.size
          clear hb9
          go_wp2
          go_ret
          exact ⟨rfl, B9.out⟩

set_option maxRecDepth 100000 in
theorem lifted (os : Os) (started : os.Started) (H : Type) (enc : TypeId × Value → H) :
    ReturnsInHanded {} Try.checked os 3 .any (Rows.splayPlacesSpec.pre6 enc Try.prog Try.f3 Rows.splayPlacesRow.domain false) (Rows.splayPlacesSpec.post enc Try.prog Try.f3 false true false false) := by
  refine returnsInHanded_of_change (C := Try.checked) own started (by kernel_rfl) Try.func3
    (ChangeSpec.witness6 (enc := enc) (C := Try.checked) false ⟨#[], #[.slice none 0 0], []⟩ 8 (by kernel_rfl) (by kernel_rfl) (by kernel_rfl) (by kernel_rfl)) ?_
  intro W base args ds gs before hval0 hW hcnd _
  have hval : ∀ (j : Nat) t v, Try.f3.params[j]? = some t → args[j]? = some v → Value.okWide Try.prog W .any base t v := hval0
  have hW' := hW
  obtain ⟨p, q, hA0, hV, rfl, hfz, hnd⟩ := hW
  have hA : DataW.TrodAll enc Try.prog W 0 (fun _ => true) true Try.f3.params.toList args.toList ds p := hA0
  rw [Try.params3] at hA hval
  obtain ⟨v0, vs0, d0, ds0, p0, q0, hargs, rfl, rfl, h0, r0⟩ := trodAll_cons hA
  obtain ⟨rfl, rfl, rfl⟩ := trodAll_nil r0
  obtain rfl : args = #[v0] := by cases args; simp_all
  obtain ⟨rfl, rfl⟩ := trodVars_none hV
  have k0 := h0
  have lt0 : ∀ x ∈ p0, x.block < W.heap.size := by obtain ⟨m, hm⟩ := k0; exact DataW.trod_lt m _ _ _ hm
  obtain ⟨a0, n0, c0, b0, f0, rfl, w0, x0, y0⟩ := opn_recs (kd := fun j => if j = 0 then .u8 else if j = 1 then .u8 else if j = 2 then .u8 else .i64) Try.underlying22 Try.underlying58 (by kernel_rfl) (by kernel_rfl) (by decide) (by
    intro j f hj
    have hjl : j < 4 := by simpa using (Array.getElem?_eq_some_iff.1 hj).1
    match j, hjl, hj with
    | 0, _, hj => simp at hj; subst hj; exact Try.underlying5
    | 1, _, hj => simp at hj; subst hj; exact Try.underlying5
    | 2, _, hj => simp at hj; subst hj; exact Try.underlying5
    | 3, _, hj => simp at hj; subst hj; exact Try.underlying2
    ) (hval 0 22 v0 rfl rfl) h0
  clear hA0 hval0
  refine (walk a0 n0 c0 b0 f0 W w0 ⟨x0, y0⟩).mono fun e W' ⟨he, bel⟩ => ?_
  subst he
  exact ⟨_, rfl, _, _, _, [], _, [], hW', trodAll_mk1 (shut_bool Try.underlying4 _), (trodAll_cons_mk (Below.trod laidOut (by kernel_rfl) (of_decide_eq_true (by kernel_rfl)) k0 bel lt0) trodAll_mk0), rfl, bel.frame _, fun h => by cases h⟩

theorem over : Rows.splayPlacesRow.holds Try.pinned (OpenSpec.ofChange Rows.splayPlacesSpec) :=
  OpenClaim.holds_of_wide 3 Try.f3 rfl rfl rfl rfl rfl rfl rfl ⟨rfl, rfl, rfl, rfl, rfl⟩ rfl rfl rfl rfl rfl (by kernel_rfl) Try.func3 (by kernel_rfl)
    (of_decide_eq_true (by kernel_rfl)) (by unfold Func.isWrapper; first | (rw [if_pos (by decide +kernel)]; kernel_rfl) | (rw [if_neg (by decide +kernel)]; exact ⟨rfl, rfl⟩))
    (fun os started H enc _ => lifted os started H enc)

/-- The statement. -/
theorem proved : Rows.SplayPlacesSaid :=
  over
#print axioms proved
end Go.Proofs.Ytblopfgnhokocaa.splayPlaces
