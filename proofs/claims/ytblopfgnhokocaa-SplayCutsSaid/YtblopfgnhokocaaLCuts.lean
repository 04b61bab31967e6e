/- THE STATEMENT SplayCuts: splitting before a node cuts its sequence there; at most 200 steps. No condition. -/
import Derived.Test.YtblopfgnhokocaaRows
import Derived.WalkKit
import Derived.ProofKit
import Derived.OpenShut
import Derived.Below
import Derived.Carry
import Derived.ChangeOld
import Derived.Lib.SmallJoins
import Derived.Test.YtblopfgnhokocaaO
import Derived.Test.YtblopfgnhokocaaLt
import Derived.Deep.RegionHeld3
set_option linter.unusedSimpArgs false
set_option linter.unusedVariables false
namespace Go.Proofs.Ytblopfgnhokocaa.splayCuts
open Go.ChangeShapes Go.WideShapes Go.ChangeAt Go.RowKit Go.Joins
open P
theorem own : ownKnob Try.prog.godebug = none := by kernel_rfl
theorem laidOut : laidOutB Try.prog = true := by kernel_rfl

set_option maxHeartbeats 4000000 in
set_option maxRecDepth 100000 in
theorem walk (a0 : Option Addr) (n0 c0 b0 : Nat) (f0 : Nat → Nat → Int) (a1 : Int) (w : World) (w0 : Recs w b0 a0 n0 4 (fun j => if j = 0 then .u8 else if j = 1 then .u8 else if j = 2 then .u8 else .i64) f0) (q0 : n0 ≤ c0 ∧ c0 ≤ maxLen) (w1 : (Lit.int .u8 a1).wf = true) :
    Calls Try.prog 4 #[.slice a0 n0 c0, .int .u8 a1] w fun e w' => e = .returned (.bool true) ∧ Below w.heap.size w w' := by
  unfold maxLen at q0
  have HPL := Lib.hid (played_any (c := c0) (f := f0) w0 (by unfold maxLen; omega))
  obtain ⟨L, V, ho, hV⟩ := ok_play ok_new f0 (min n0 200)
  rw [ho] at HPL
  have HV := Lib.hid hV
  obtain ⟨hu0, hu1⟩ := wf_u8 w1
  obtain ⟨x, hxe⟩ : ∃ x : Nat, (a1 % 40 : Int) = x := ⟨(a1 % 40).toNat, by omega⟩
  have hx40 : x < 40 := by omega
  have HX : Hid (x < V.length) := by show _ < _; rw [hV]; exact hx40
  have XE := Lib.hid hxe
  clear w0 q0 hV ho hxe w1
  go_enter Try.func4, Try.ntmps4
  go_wp2_with fail
  refine HPL.out.mono ?_
  rintro e w1 ⟨v, rfl, hP, hb⟩
  obtain ⟨p, rfl⟩ := hP.some_ptr
  have pt : Part 40 L := by have := hP.part; rwa [HV.out] at this
  have PTL := Lib.hid pt
  have B1 := Lib.hid hb
  obtain ⟨lo, hlo⟩ : ∃ lo, w.heap.size = lo := ⟨_, rfl⟩
  obtain ⟨hi, hhi⟩ : ∃ hi, w1.heap.size = hi := ⟨_, rfl⟩
  have LO := Lib.hid hlo
  rw [hhi, hlo] at hP
  have P1 := Lib.hid hP
  have s1 : hi ≤ w1.heap.size := by omega
  clear hP hb hhi HPL pt hlo
  have hnode := PTL.out.idx hx40
  have hsx := PTL.out.split_x hx40
  have hsp := PTL.out.splitted hx40
  obtain ⟨t0, ht0⟩ := drop_idx (PTL.out.lst hx40).2
  have hmx := (PTL.out.lst hx40).2
  have hl40 := PTL.out.len_le (PTL.out.lst hx40).1
  have hnd := PTL.out.lnodup (PTL.out.lst hx40).1
  obtain ⟨l, hl⟩ : ∃ l, lst L x = l := ⟨_, rfl⟩
  have PO := Lib.hid (pos40 (w := w1) P1.out x HX.out)
  have HSF := Lib.hid (fun y => PTL.out.split_first hx40 (y := y))
  rw [hl] at hnode hsx ht0 hmx hl40 hnd HSF
  obtain ⟨i, hi'⟩ : ∃ i, l.idxOf x = i := ⟨_, rfl⟩
  rw [hi'] at hnode hsx ht0 HSF
  obtain ⟨M, hM⟩ : ∃ M, splitL L x = M := ⟨_, rfl⟩
  rw [hM] at hsx hsp HSF
  have HL := Lib.hid hl
  have HI := Lib.hid hi'
  have HM := Lib.hid hM
  have SX := Lib.hid hsx
  have SP := Lib.hid hsp
  have T0 := Lib.hid ht0
  have MX := Lib.hid hmx
  have ND := Lib.hid hnd
  have FM : Hid (i = 0 → M = L) := by
    intro h0
    show M = L
    rw [← hM]; unfold splitL; rw [hl, hi', if_pos h0]
  have FPI : Hid ((lst M x).idxOf x = 0) := by show _ = _; rw [hsx, ht0, List.idxOf_cons_self]
  clear PO hl hi' hM hsx hsp ht0 hmx hnd
  go_wp2_with fail
  rw [XE.out]
  refine (listc40 P1.out x HX.out).mono ?_
  rintro e w2 ⟨bI, aI, mI, cI, rfl, hI, ⟨hmcI, hbb⟩, hP, hm⟩
  have P2 := Lib.hid hP
  have B2 : Hid (Below w.heap.size w w2) := Mod.below B1.out hm (by rw [LO.out]; exact Nat.le_refl _) B1.out.size
  have s2 : hi ≤ w2.heap.size := Nat.le_trans s1 hm.size
  have I2 := Lib.hid hI
  have SI : Hid (0 < mI → bI < lo ∨ hi ≤ bI) := fun h => .inr (Nat.le_trans s1 (hbb h))
  clear hI hbb hP hm P1 B1 s1 
  rw [HL.out] at I2
  have LEN : l.length = mI := by have := I2.out.1; simpa [nums] using this
  rw [LEN] at hnode hl40
  have hoff := I2.out.2.2.2 (by omega)
  obtain ⟨off, ha, -⟩ := hoff
  subst ha
  have HLEN := Lib.hid LEN
  clear LEN
  go_wp2_with fail
  refine (pos40 P2.out x HX.out).mono ?_
  rintro e w3 ⟨rfl, hP, hm⟩
  have P3 := Lib.hid hP
  have B3 : Hid (Below w.heap.size w w3) := Mod.below B2.out hm (by rw [LO.out]; exact Nat.le_refl _) B2.out.size
  have s3 : hi ≤ w3.heap.size := Nat.le_trans s2 hm.size
  have I3 := Lib.hid (I2.out.mod hm SI.out)
  clear hP hm P2 B2 s2 I2
  rw [HL.out, HI.out]
  have J3 : Hid (Ints w3 bI (some ⟨bI, off + i, none⟩) (mI - i) (cI - i) (nums (l.drop i))) := by
    have := I3.out.drop (k := i) (by omega)
    rwa [nums_drop] at this
  have SJ : Hid (0 < mI - i → bI < lo ∨ hi ≤ bI) := fun h => SI.out (by omega)
  have f0 : decide ((i : Int) < 0) = false := decide_eq_false (by omega)
  have f1 : decide ((mI : Int) ≤ i) = false := decide_eq_false (by omega)
  have f5 : decide (mI ≤ i) = false := decide_eq_false (by omega)
  have f2 : (i : Int) ≤ mI := by omega
  have f3 : (0 : Int) ≤ i := by omega
  have f4 : (mI : Int) ≤ cI := by omega
  have HPM : Hid (∀ W, PSo W lo hi (.pointer (some ⟨p, 0, none⟩)) (some (M, V)) → Calls Try.prog 17 #[.pointer (some ⟨p, 0, none⟩), .int .i64 x] W (Sp W lo hi (.pointer (some ⟨p, 0, none⟩)) (some (M, V)) (.int .i64 0))) := by
    intro W hW
    have := pos40 hW x HX.out
    rwa [FPI.out] at this
  have HLM : Hid (∀ W, PSo W lo hi (.pointer (some ⟨p, 0, none⟩)) (some (M, V)) → Calls Try.prog 14 #[.pointer (some ⟨p, 0, none⟩), .int .i64 x] W (GivesC W lo hi (.pointer (some ⟨p, 0, none⟩)) (some (M, V)) (l.drop i))) := by
    intro W hW
    have := listc40 hW x HX.out
    rwa [SX.out] at this
  have HSM : Hid (∀ W, PSo W lo hi (.pointer (some ⟨p, 0, none⟩)) (some (L, V)) → Calls Try.prog 20 #[.pointer (some ⟨p, 0, none⟩), .int .i64 x] W (Sp W lo hi (.pointer (some ⟨p, 0, none⟩)) (some (M, V)) (.int .i64 0))) := by
    intro W hW
    have := split40 hW x HX.out
    rwa [HM.out] at this
  have LD : Hid ((l.drop i).length ≤ 65536) := by show _ ≤ _; rw [List.length_drop, HLEN.out]; omega
  have KS : Hid (∀ W (b n c : Nat) a (b' n' c' : Nat) a' (m : List Nat), m.length ≤ 65536 → Ints W b a n c (nums m) → Ints W b' a' n' c' (nums m) → Calls Try.prog 21 #[.slice a n c, .slice a' n' c'] W fun e w' => e = .returned (.bool true) ∧ Below W.heap.size W w') := by
    intro W b n c a b' n' c' a' m hm h1 h2
    have := samen_any h1 h2 hm hm
    rwa [decide_eq_true rfl] at this
  go_wp2_with fail
  have P3 := Lib.hid (P3.out.below (Below.drew (Below.refl _ _)))
  have B3 : Hid (Below w.heap.size w w3.drew) := Below.drew B3.out
  have I3 := Lib.hid (I3.out.below (Below.drew (Below.refl _ _)))
  have J3 := Lib.hid (J3.out.below (Below.drew (Below.refl _ _)))
  have s3 : hi ≤ w3.drew.heap.size := s3
  go_region_held3 (fun w' => hi ≤ w'.heap.size) (first | exact s7 | exact s6 | exact s5 | exact s4 | exact s3 | go_keep) (first
    | (go_at_call 20; go_must (refine (HSM.out _ P3.out).mono ?_; rintro e w4 ⟨rfl, hP, hm⟩; have P4 := Lib.hid hP; have B4 : Hid (Below w.heap.size w w4) := Mod.below B3.out hm (by rw [LO.out]; exact Nat.le_refl _) B3.out.size; have s4 : hi ≤ w4.heap.size := Nat.le_trans s3 hm.size; have I4 := Lib.hid (I3.out.mod hm SI.out); have J4 := Lib.hid (J3.out.mod hm SJ.out); clear hP hm P3 B3 s3 I3 J3))
    | (go_at_call 17; go_must (refine (HPM.out _ P4.out).mono ?_; rintro e w5 ⟨rfl, hP, hm⟩; have P5 := Lib.hid hP; have B5 : Hid (Below w.heap.size w w5) := Mod.below B4.out hm (by rw [LO.out]; exact Nat.le_refl _) B4.out.size; have s5 : hi ≤ w5.heap.size := Nat.le_trans s4 hm.size; have I5 := Lib.hid (I4.out.mod hm SI.out); have J5 := Lib.hid (J4.out.mod hm SJ.out); clear hP hm P4 B4 s4 I4 J4))
    | (go_at_call 14; go_must (refine (HLM.out _ P5.out).mono ?_; rintro e w6 ⟨bK, aK, mK, cK, rfl, hI, ⟨hmcK, hbb⟩, hP, hm⟩; have P6 := Lib.hid hP; have B6 : Hid (Below w.heap.size w w6) := Mod.below B5.out hm (by rw [LO.out]; exact Nat.le_refl _) B5.out.size; have s6 : hi ≤ w6.heap.size := Nat.le_trans s5 hm.size; have K6 := Lib.hid hI; have SK : Hid (0 < mK → bK < lo ∨ hi ≤ bK) := fun h => .inr (Nat.le_trans s5 (hbb h)); have I6 := Lib.hid (I5.out.mod hm SI.out); have J6 := Lib.hid (J5.out.mod hm SJ.out); clear hI hbb hP hm P5 B5 s5 I5 J5))
    | (go_at_call 21; go_must (refine (KS.out _ _ _ _ _ _ _ _ _ _ LD.out K6.out J6.out).mono ?_; rintro e w7 ⟨rfl, hb⟩; have P7 := Lib.hid (P6.out.below hb); have B7 := hb_trans' B6 hb B6.out.size; have s7 : hi ≤ w7.heap.size := Nat.le_trans s6 hb.size; have I7 := Lib.hid (I6.out.below hb); clear hb P6 B6 s6 I6 J6 K6)))
  clear HPM HSM f0 f1 f5 SJ
  by_cases hi0 : i = 0
  · have b0 : ((i : Int) == 0) = true := by simp [hi0]
    have e0 : l.drop i = l := by rw [hi0]; rfl
    rw [e0] at HLM LD
    clear hi0 e0
    go_wp2_with fail
    refine (HLM.out _ P7.out).mono ?_
    rintro e w8 ⟨bK, aK, mK, cK, rfl, hI, ⟨hmcK, hbb⟩, hP, hm⟩
    have P8 := Lib.hid hP
    have B8 : Hid (Below w.heap.size w w8) := Mod.below B7.out hm (by rw [LO.out]; exact Nat.le_refl _) B7.out.size
    have s8 : hi ≤ w8.heap.size := Nat.le_trans s7 hm.size
    have K8 := Lib.hid hI
    have SK : Hid (0 < mK → bK < lo ∨ hi ≤ bK) := fun h => .inr (Nat.le_trans s7 (hbb h))
    have I8 := Lib.hid (I7.out.mod hm SI.out)
    clear hI hbb hP hm P7 B7 s7 I7
    go_wp2_with fail
    refine (KS.out _ _ _ _ _ _ _ _ _ _ LD.out K8.out I8.out).mono ?_
    rintro e w9 ⟨rfl, hb⟩
    have B9 := hb_trans' B8 hb B8.out.size
    clear hb P8 B8 s8 I8 K8
    go_wp2_with fail
    refine (works_any _).mono ?_
    rintro e w99 ⟨rfl, hb99⟩
    have B99 := hb_trans' B9 hb99 B9.out.size
    clear hb99
    go_wp2
    go_ret
    exact ⟨rfl, B99.out⟩
  · have b0 : ((i : Int) == 0) = false := by simp; omega
    have hi1 : 0 < i := by omega
    obtain ⟨y, hy⟩ : ∃ y, l.getD 0 0 = y := ⟨_, rfl⟩
    have h0l : 0 < l.length := by rw [HLEN.out]; omega
    have hyt : y ∈ l.take i := by
      rw [← hy, List.getD_eq_getElem?_getD, List.getElem?_eq_getElem h0l]
      have : (l.take i)[0]'(by rw [List.length_take]; omega) = l[0] := by simp
      rw [Option.getD_some, ← this]
      exact List.getElem_mem _
    have hyl : y ∈ l := List.mem_of_mem_take hyt
    have hxt : x ∉ l.take i := by
      intro h
      have h1 := List.idxOf_lt_length_of_mem h
      have h2 : l.idxOf x = (l.take i).idxOf x := by
        conv => lhs; rw [← List.take_append_drop i l, List.idxOf_append, if_pos h]
      rw [← h2, HI.out, List.length_take] at h1
      omega
    have hSY := HSF.out y hyt
    have hy40 : y < 40 := PTL.out.lt (PTL.out.lst hx40).1 (by rw [HL.out]; exact hyl)
    have HY : Hid (y < V.length) := by show _ < _; rw [HV.out]; exact hy40
    have hxM : x ∉ lst M y := by rw [hSY]; exact hxt
    have hjoin : lst M y ++ lst M x = l := by rw [hSY, SX.out, List.take_append_drop]
    obtain ⟨Q, hQ⟩ : ∃ Q, joinL M y x = Q := ⟨_, rfl⟩
    have hQx : lst Q x = l := by rw [← hQ, SP.out.join_x hy40 hx40 hxM (by rw [hjoin]; exact MX.out), hjoin]
    have HSA : Hid (∀ W, PSo W lo hi (.pointer (some ⟨p, 0, none⟩)) (some (M, V)) → Calls Try.prog 18 #[.pointer (some ⟨p, 0, none⟩), .int .i64 y, .int .i64 x] W (Sp W lo hi (.pointer (some ⟨p, 0, none⟩)) (some (M, V)) (.bool false))) := by
      intro W hW
      have := same40 hW y x HY.out HX.out
      rwa [decide_eq_false hxM] at this
    have HLA : Hid (∀ W, PSo W lo hi (.pointer (some ⟨p, 0, none⟩)) (some (M, V)) → Calls Try.prog 14 #[.pointer (some ⟨p, 0, none⟩), .int .i64 y] W (GivesC W lo hi (.pointer (some ⟨p, 0, none⟩)) (some (M, V)) (l.take i))) := by
      intro W hW
      have := listc40 hW y HY.out
      rwa [hSY] at this
    have HJA : Hid (∀ W, PSo W lo hi (.pointer (some ⟨p, 0, none⟩)) (some (M, V)) → Calls Try.prog 22 #[.pointer (some ⟨p, 0, none⟩), .int .i64 y, .int .i64 x] W (Sp W lo hi (.pointer (some ⟨p, 0, none⟩)) (some (Q, V)) (.int .i64 0))) := by
      intro W hW
      have := join40 hW y x HY.out HX.out hxM
      rwa [hQ] at this
    have HLQ : Hid (∀ W, PSo W lo hi (.pointer (some ⟨p, 0, none⟩)) (some (Q, V)) → Calls Try.prog 14 #[.pointer (some ⟨p, 0, none⟩), .int .i64 x] W (GivesC W lo hi (.pointer (some ⟨p, 0, none⟩)) (some (Q, V)) l)) := by
      intro W hW
      have := listc40 hW x HX.out
      rwa [hQx] at this
    have HPQ : Hid (∀ W, PSo W lo hi (.pointer (some ⟨p, 0, none⟩)) (some (Q, V)) → Calls Try.prog 17 #[.pointer (some ⟨p, 0, none⟩), .int .i64 x] W (Sp W lo hi (.pointer (some ⟨p, 0, none⟩)) (some (Q, V)) (.int .i64 i))) := by
      intro W hW
      have := pos40 hW x HX.out
      rwa [hQx, HI.out] at this
    have HHQ : Hid (∀ W, PSo W lo hi (.pointer (some ⟨p, 0, none⟩)) (some (Q, V)) → Calls Try.prog 22 #[.pointer (some ⟨p, 0, none⟩), .int .i64 x, .int .i64 y] W (Sp W lo hi (.pointer (some ⟨p, 0, none⟩)) (some (Q, V)) (.int .i64 6))) := by
      intro W hW
      exact have40 hW x y HX.out HY.out (by rw [hQx]; exact hyl)
    have LT : Hid ((l.take i).length ≤ 65536) := by show _ ≤ _; rw [List.length_take, HLEN.out]; omega
    have LL : Hid (l.length ≤ 65536) := by show _ ≤ _; rw [HLEN.out]; omega
    have ck : w7.cell? ⟨bI, off, none⟩ = some (.int .i64 y) := by
      obtain ⟨off', e', hc'⟩ := I7.out.2.2.2 (by omega)
      injection e' with e'; injection e' with _ e'
      have := hc' 0 (by omega)
      rw [Nat.add_zero, ← e'] at this
      rw [this, ← hy]
      simp [nums, List.getD_eq_getElem?_getD, h0l]
    have g0 : (0 : Int) < (mI : Int) := by omega
    have g1 : (i : Int) ≤ cI := by omega
    clear HLM LD hi0 hy h0l hyt hyl hxt hSY hxM hjoin hQ hQx HSF
    go_wp2_with fail
    have P7 := Lib.hid (P7.out.below (Below.drew (Below.refl _ _)))
    have B7 : Hid (Below w.heap.size w w7.drew) := Below.drew B7.out
    have I7 := Lib.hid (I7.out.below (Below.drew (Below.refl _ _)))
    have s7 : hi ≤ w7.drew.heap.size := s7
    have J7 : Hid (Ints w7.drew bI (some ⟨bI, off, none⟩) i cI (nums (l.take i))) := by
      have := I7.out.take (k := i) (by omega)
      rwa [nums_take] at this
    have SJ : Hid (0 < i → bI < lo ∨ hi ≤ bI) := fun h => SI.out (by omega)
    clear ck
    go_region_held3 (fun w' => hi ≤ w'.heap.size) (first | exact s11 | exact s10 | exact s9 | exact s8 | exact s7 | go_keep) (first
      | (go_at_call 18; go_must (refine (HSA.out _ P7.out).mono ?_; rintro e w8 ⟨rfl, hP, hm⟩; have P8 := Lib.hid hP; have B8 : Hid (Below w.heap.size w w8) := Mod.below B7.out hm (by rw [LO.out]; exact Nat.le_refl _) B7.out.size; have s8 : hi ≤ w8.heap.size := Nat.le_trans s7 hm.size; have I8 := Lib.hid (I7.out.mod hm SI.out); have J8 := Lib.hid (J7.out.mod hm SJ.out); clear hP hm P7 B7 s7 I7 J7))
      | (go_at_call 14; go_must (refine (HLA.out _ P8.out).mono ?_; rintro e w9 ⟨bK, aK, mK, cK, rfl, hI, ⟨hmcK, hbb⟩, hP, hm⟩; have P9 := Lib.hid hP; have B9 : Hid (Below w.heap.size w w9) := Mod.below B8.out hm (by rw [LO.out]; exact Nat.le_refl _) B8.out.size; have s9 : hi ≤ w9.heap.size := Nat.le_trans s8 hm.size; have K9 := Lib.hid hI; have SK : Hid (0 < mK → bK < lo ∨ hi ≤ bK) := fun h => .inr (Nat.le_trans s8 (hbb h)); have I9 := Lib.hid (I8.out.mod hm SI.out); have J9 := Lib.hid (J8.out.mod hm SJ.out); clear hI hbb hP hm P8 B8 s8 I8 J8))
      | (go_at_call 21; go_must (refine (KS.out _ _ _ _ _ _ _ _ _ _ LT.out K9.out J9.out).mono ?_; rintro e w10 ⟨rfl, hb⟩; have P10 := Lib.hid (P9.out.below hb); have B10 := hb_trans' B9 hb B9.out.size; have s10 : hi ≤ w10.heap.size := Nat.le_trans s9 hb.size; have I10 := Lib.hid (I9.out.below hb); clear hb P9 B9 s9 I9 J9 K9))
      | (go_at_call 22; go_must (refine (HJA.out _ P10.out).mono ?_; rintro e w11 ⟨rfl, hP, hm⟩; have P11 := Lib.hid hP; have B11 : Hid (Below w.heap.size w w11) := Mod.below B10.out hm (by rw [LO.out]; exact Nat.le_refl _) B10.out.size; have s11 : hi ≤ w11.heap.size := Nat.le_trans s10 hm.size; have I11 := Lib.hid (I10.out.mod hm SI.out); clear hP hm P10 B10 s10 I10)))
    clear HSA HLA HJA SJ
    go_wp2_with fail
    refine (HLQ.out _ P11.out).mono ?_
    rintro e w12 ⟨bK, aK, mK, cK, rfl, hI, ⟨hmcK, hbb⟩, hP, hm⟩
    have P12 := Lib.hid hP
    have B12 : Hid (Below w.heap.size w w12) := Mod.below B11.out hm (by rw [LO.out]; exact Nat.le_refl _) B11.out.size
    have s12 : hi ≤ w12.heap.size := Nat.le_trans s11 hm.size
    have K12 := Lib.hid hI
    have SK : Hid (0 < mK → bK < lo ∨ hi ≤ bK) := fun h => .inr (Nat.le_trans s11 (hbb h))
    have I12 := Lib.hid (I11.out.mod hm SI.out)
    clear hI hbb hP hm P11 B11 s11 I11
    go_wp2_with fail
    refine (KS.out _ _ _ _ _ _ _ _ _ _ LL.out K12.out I12.out).mono ?_
    rintro e w13 ⟨rfl, hb⟩
    have P13 := Lib.hid (P12.out.below hb)
    have B13 := hb_trans' B12 hb B12.out.size
    have s13 : hi ≤ w13.heap.size := Nat.le_trans s12 hb.size
    clear hb P12 B12 s12 I12 K12
    go_wp2_with fail
    refine (HPQ.out _ P13.out).mono ?_
    rintro e w14 ⟨rfl, hP, hm⟩
    have P14 := Lib.hid hP
    have B14 : Hid (Below w.heap.size w w14) := Mod.below B13.out hm (by rw [LO.out]; exact Nat.le_refl _) B13.out.size
    have s14 : hi ≤ w14.heap.size := Nat.le_trans s13 hm.size
    clear hP hm P13 B13 s13 
    go_wp2_with fail
    refine (HHQ.out _ P14.out).mono ?_
    rintro e w15 ⟨rfl, hP, hm⟩
    have P15 := Lib.hid hP
    have B15 : Hid (Below w.heap.size w w15) := Mod.below B14.out hm (by rw [LO.out]; exact Nat.le_refl _) B14.out.size
    have s15 : hi ≤ w15.heap.size := Nat.le_trans s14 hm.size
    clear hP hm P14 B14 s14 
    go_wp2_with fail
    refine (works_any _).mono ?_
    rintro e w99 ⟨rfl, hb99⟩
    have B99 := hb_trans' B15 hb99 B15.out.size
    clear hb99
    go_wp2
    go_ret
    exact ⟨rfl, B99.out⟩

set_option maxRecDepth 100000 in
theorem lifted (os : Os) (started : os.Started) (H : Type) (enc : TypeId × Value → H) :
    ReturnsInHanded {} Try.checked os 4 .any (Rows.splayCutsSpec.pre6 enc Try.prog Try.f4 Rows.splayCutsRow.domain false) (Rows.splayCutsSpec.post enc Try.prog Try.f4 false true false false) := by
  refine returnsInHanded_of_change (C := Try.checked) own started (by kernel_rfl) Try.func4
    (ChangeSpec.witness6 (enc := enc) (C := Try.checked) false ⟨#[], #[.slice none 0 0, .int .u8 0], []⟩ 8 (by kernel_rfl) (by kernel_rfl) (by kernel_rfl) (by kernel_rfl)) ?_
  intro W base args ds gs before hval0 hW hcnd _
  have hval : ∀ (j : Nat) t v, Try.f4.params[j]? = some t → args[j]? = some v → Value.okWide Try.prog W .any base t v := hval0
  have hW' := hW
  obtain ⟨p, q, hA0, hV, rfl, hfz, hnd⟩ := hW
  have hA : DataW.TrodAll enc Try.prog W 0 (fun _ => true) true Try.f4.params.toList args.toList ds p := hA0
  rw [Try.params4] at hA hval
  obtain ⟨v0, vs0, d0, ds0, p0, q0, hargs, rfl, rfl, h0, r0⟩ := trodAll_cons hA
  obtain ⟨v1, vs1, d1, ds1, p1, q1, rfl, rfl, rfl, h1, r1⟩ := trodAll_cons r0
  obtain ⟨rfl, rfl, rfl⟩ := trodAll_nil r1
  obtain rfl : args = #[v0, v1] := by cases args; simp_all
  obtain ⟨rfl, rfl⟩ := trodVars_none hV
  have k0 := h0
  have lt0 : ∀ x ∈ p0, x.block < W.heap.size := by obtain ⟨m, hm⟩ := k0; exact DataW.trod_lt m _ _ _ hm
  have k1 := h1
  have lt1 : ∀ x ∈ p1, x.block < W.heap.size := by obtain ⟨m, hm⟩ := k1; exact DataW.trod_lt m _ _ _ hm
  obtain ⟨a0, n0, c0, b0, f0, rfl, w0, x0, y0⟩ := opn_recs (kd := fun j => if j = 0 then .u8 else if j = 1 then .u8 else if j = 2 then .u8 else .i64) Try.underlying22 Try.underlying58 (by kernel_rfl) (by kernel_rfl) (by decide) (by
    intro j f hj
    have hjl : j < 4 := by simpa using (Array.getElem?_eq_some_iff.1 hj).1
    match j, hjl, hj with
    | 0, _, hj => simp at hj; subst hj; exact Try.underlying5
    | 1, _, hj => simp at hj; subst hj; exact Try.underlying5
    | 2, _, hj => simp at hj; subst hj; exact Try.underlying5
    | 3, _, hj => simp at hj; subst hj; exact Try.underlying2
    ) (hval 0 22 v0 rfl rfl) h0
  obtain ⟨a1, rfl, dd1, pp1, w1⟩ := open_int Try.underlying5 (hval 1 5 v1 rfl rfl) h1
  clear hA0 hval0
  refine (walk a0 n0 c0 b0 f0 a1 W w0 ⟨x0, y0⟩ w1).mono fun e W' ⟨he, bel⟩ => ?_
  subst he
  exact ⟨_, rfl, _, _, _, [], _, [], hW', trodAll_mk1 (shut_bool Try.underlying4 _), (trodAll_cons_mk (Below.trod laidOut (by kernel_rfl) (of_decide_eq_true (by kernel_rfl)) k0 bel lt0) (trodAll_cons_mk (Below.trod laidOut (by kernel_rfl) (of_decide_eq_true (by kernel_rfl)) k1 bel lt1) trodAll_mk0)), rfl, bel.frame _, fun h => by cases h⟩

theorem over : Rows.splayCutsRow.holds Try.pinned (OpenSpec.ofChange Rows.splayCutsSpec) :=
  OpenClaim.holds_of_wide 4 Try.f4 rfl rfl rfl rfl rfl rfl rfl ⟨rfl, rfl, rfl, rfl, rfl⟩ rfl rfl rfl rfl rfl (by kernel_rfl) Try.func4 (by kernel_rfl)
    (of_decide_eq_true (by kernel_rfl)) (by unfold Func.isWrapper; first | (rw [if_pos (by decide +kernel)]; kernel_rfl) | (rw [if_neg (by decide +kernel)]; exact ⟨rfl, rfl⟩))
    (fun os started H enc _ => lifted os started H enc)

/-- The statement. -/
theorem proved : Rows.SplayCutsSaid :=
  over
#print axioms proved
end Go.Proofs.Ytblopfgnhokocaa.splayCuts
