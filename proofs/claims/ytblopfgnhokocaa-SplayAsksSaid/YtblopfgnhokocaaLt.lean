/- THE CONTRACTS of package splay: List once more: its length is within its room. -/
import Derived.Test.YtblopfgnhokocaaS3
import Derived.Maps.AppendAt
namespace Go.Proofs.Ytblopfgnhokocaa
open Go.RowKit P
set_option linter.unusedVariables false
set_option linter.unusedSimpArgs false

/-- A list that a call hands back, with its room. -/
def GivesC (w : World) (lo hi : Nat) (v : Value) (o : SSt) (l : List Nat) (e : Ending) (w' : World) : Prop :=
  ∃ b a m c, e = .returned (.slice a m c) ∧ Ints w' b a m c (nums l) ∧ (m ≤ c ∧ (0 < m → w.heap.size ≤ b)) ∧ PSo w' lo hi v o ∧ Mod lo hi w w'
theorem nums_intsc {w : World} {base : Nat} {v : Value} {l : List Nat} (h : w.ownsRow base 3 1 v l.length (outs l)) (hb : ∀ x ∈ l, x ≤ 65536) : ∃ b a m c, v = .slice a m c ∧ Ints w b a m c (nums l) ∧ (m ≤ c ∧ (0 < m → base ≤ b)) := by
  obtain ⟨b, a, m, c, rfl, hi, hg⟩ := nums_ints h hb
  refine ⟨b, a, m, c, rfl, hi, ?_, hg⟩
  have hm : m = l.length := by have := hi.1; simpa [nums] using this.symm
  rcases h.2 with ⟨e, h0⟩ | ⟨g', cap', cur, e, _, _, h4, _⟩
  · injection e with _ e2 e3; omega
  · injection e with _ e2 e3; omega
set_option maxRecDepth 100000 in
set_option maxHeartbeats 4000000 in
theorem list_okc {w : World} {lo hi p : Nat} {L : List (List Nat)} {V : List Int} (h : PT w lo hi p L V) (x : Int) (h0 : 0 ≤ x) (hxV : x < V.length) : Calls Try.prog 14 #[.pointer (some ⟨p, 0, none⟩), .int .i64 x] w (GivesC w lo hi (.pointer (some ⟨p, 0, none⟩)) (some (L, V)) (lst L x.toNat)) := by
  obtain ⟨g, n, cap, T, l1, l2, hcap, hI⟩ := h
  obtain ⟨i0, hi0, hz0, hz1, hz2⟩ := info_parts info3
  obtain ⟨i1, hi1, hy0, hy1, hy2⟩ := info_parts info21
  have hxn : x < n := by rw [← hI.len]; exact hxV
  have hn := hI.hn
  have gB : g < w.heap.size := RTab.lt' hI.tab
  have pB : p < w.heap.size := World.block_lt_of_cell? w _ hI.hob.1
  obtain ⟨y0, hy0'⟩ : ∃ y, y = x.toNat + 1 := ⟨_, rfl⟩
  have hyn0 : y0 ≤ n := by omega
  have HC := Lib.hid (check_ok hI.hob hI.hn x y0 (by omega) h0 hxn)
  have HS := Lib.hid (splayF hI x.toNat (by omega) y0 hy0')
  have HX := Lib.hid (show x.toNat < n by omega)
  have HY := Lib.hid hy0'
  have LL := Lib.hid (And.intro l1 (And.intro l2 hcap))
  have npg := hI.ne
  have npg' : ¬ g = p := fun e => npg e.symm
  have hlen := hI.fok.part.len_le (hI.fok.part.lst (show x.toNat < n by omega)).1
  have HLL : Hid (∀ z ∈ lst L x.toNat, z < n) := fun z hz => hI.fok.part.lt (hI.fok.part.lst (show x.toNat < n by omega)).1 hz
  obtain ⟨l, hl⟩ : ∃ l, lst L x.toNat = l := ⟨_, rfl⟩
  have HLE := Lib.hid hl
  rw [hl] at hlen HLL
  clear hI hxV hxn hy0' l1 l2 hcap hl
  go_enter Try.func14, Try.ntmps14
  go_wp2_with fail
  refine HC.out.mono ?_
  rintro e w' ⟨rfl, rfl⟩
  go_wp2_with fail
  refine HS.out.mono ?_
  rintro e w2 ⟨rfl, T2, i2, m2, r2, f2⟩
  obtain ⟨⟨ta, tb, tr⟩, tt⟩ := r2
  have st0 : LS T2 l [] (.node ta (x.toNat + 1) tb) [] [] l.length := by
    rw [HLE.out] at tr
    refine ⟨tr, fun f hf => by simp at hf, rfl, rfl, ?_⟩
    have := tr.nodes.length_eq
    simp only [up1, List.length_map] at this
    simp [postC, this]
  have I2 := Lib.hid i2
  have M2 := Lib.hid m2
  have S2 := Lib.hid st0
  have hbase : w.heap.size ≤ w2.heap.size := m2.size
  clear i2 m2 f2 HS st0 tr tt
  go_wp2_with fail
  go_loopg [5, 7, 8] l.length (fun gk n_ out_ open_ wr => ∃ (c : List Fr) (t : Tr) (out st : List Nat) (T3 : Tb) (y : Nat) (oa sa : Option Addr) (oc sc : Nat), n_ = .int .i32 y ∧ out_ = .slice oa out.length oc ∧ open_ = .slice sa st.length sc ∧ Hid (t.root = y) ∧ Hid (In wr p g n cap T3 L V) ∧ Hid (Mod g (g + 1) w wr) ∧ Hid (LS T3 l c t out st gk) ∧ Hid (wr.ownsRow w.heap.size 3 1 (.slice oa out.length oc) out.length (outs out)) ∧ Hid (wr.ownsRow w.heap.size 21 1 (.slice sa st.length sc) st.length (stk st)))
  case atStart => exact ⟨[], .node ta (x.toNat + 1) tb, [], [], T2, y0, none, none, 0, 0, rfl, rfl, rfl, HY.out.symm, I2, M2, S2, World.ownsRow_nil _ _ _ _, World.ownsRow_nil _ _ _ _⟩
  case round =>
    obtain ⟨c, t, out, st, T3, y, oa, sa, oc, sc, rfl, rfl, rfl, hty, HI, HM, HS, HO, HT⟩ := hrel
    clear I2 M2 S2
    have hln := HS.out.len
    obtain ⟨so, hso⟩ : ∃ s, out.length = s := ⟨_, rfl⟩
    obtain ⟨ss, hss⟩ : ∃ s, st.length = s := ⟨_, rfl⟩
    rw [hso, hss] at hln ⊢
    rw [hso] at HO
    rw [hss] at HT
    have HSO := Lib.hid hso
    have HSS := Lib.hid hss
    by_cases hfin : y = 0 ∧ ss = 0
    · obtain ⟨rfl, rfl⟩ := hfin
      have hnil : t = .nil := by
        cases t with
        | nil => rfl
        | node a z b =>
          have := HS.out.tr.ne (in_L HS.out.tr (y := z) (.inr (by simp [Tr.nodes])))
          exact absurd hty.out this
      have hst : st = [] := List.length_eq_zero_iff.1 hss
      subst hnil hst
      have hall := HS.out.all
      have FIN : Hid (GivesC w lo hi (.pointer (some ⟨p, 0, none⟩)) (some (L, V)) (lst L x.toNat) (.returned (.slice oa so oc)) wr) := by
        have h1 := HO.out
        rw [← hso, hall] at h1
        obtain ⟨b, a, m, c', e, q1, q2⟩ := nums_intsc h1 (fun z hz => by have := HLL.out z hz; omega)
        refine ⟨b, a, m, c', ?_, ?_, q2, ⟨p, rfl, g, n, cap, T3, LL.out.1, LL.out.2.1, LL.out.2.2, HI.out⟩, HM.out.mono LL.out.2.1.1 (by have := LL.out.2.1.2; omega)⟩
        · rw [← e, ← hso, hall]
        · rw [HLE.out]; exact q1
      clear hall hln hso hss HSS HSO HO HT HS HI HM hty
      go_wp2
      go_ret
      exact FIN.out
    · have main : ∀ (K : Prop), K → True := fun _ _ => trivial
      clear main
      have hgo : (y ≠ 0) ∨ (y = 0 ∧ 0 < ss) := by omega
      have NE : Hid (t.root ≠ 0 ∨ st ≠ []) := by
        rcases hgo with h | h
        · exact .inl (by rw [hty.out]; exact h)
        · exact .inr (fun e => by rw [e] at hss; simp at hss; omega)
      have sl : ss ≤ 65536 := by omega
      have ol : so ≤ 65536 := by omega
      clear hfin hso hss
      rcases hgo with hy | ⟨hy, hs0⟩
      case' inl => have hb1 : ((y : Int) != 0) = true := by simp; omega
      case' inr =>
        have hb1 : ((y : Int) != 0) = false := by simp [hy]
        clear hy
      all_goals
        go_wp2_with fail
        obtain ⟨wo, rfl⟩ : ∃ wo : World, wo = wr := ⟨_, rfl⟩
        obtain ⟨ko, rfl⟩ : ∃ k, k = gk := ⟨_, rfl⟩
        go_loopg [5, 8] t.nodes.length (fun gk n_ open_ wr => ∃ (c : List Fr) (t : Tr) (st : List Nat) (T3 : Tb) (y : Nat) (sa : Option Addr) (sc ss : Nat), n_ = .int .i32 y ∧ open_ = .slice sa ss sc ∧ Hid (t.nodes.length = gk) ∧ Hid (st.length = ss) ∧ Hid (t.root = y) ∧ Hid (t.root ≠ 0 ∨ st ≠ []) ∧ Hid (In wr p g n cap T3 L V) ∧ Hid (Mod g (g + 1) w wr) ∧ Hid (LS T3 l c t out st ko) ∧ Hid (wr.ownsRow w.heap.size 3 1 (.slice oa so oc) so (outs out)) ∧ Hid (wr.ownsRow w.heap.size 21 1 (.slice sa ss sc) ss (stk st)))
        case atStart => exact ⟨c, t, st, T3, y, sa, sc, ss, rfl, rfl, rfl, HSS, hty, NE, HI, HM, HS, HO, HT⟩
        case round =>
          obtain ⟨c1, t1, st1, T4, y1, sa1, sc1, ss1, rfl, rfl, hgk, HSS1, hty1, NE1, HI1, HM1, HS1, HO1, HT1⟩ := hrel
          clear HSS hty NE HI HM HS HO HT
          have hln1 := HS1.out.len
          have sl1 : ss1 ≤ 65536 := by have := HSS1.out; omega
          by_cases hz1 : y1 = 0
          · have hb2 : ((y1 : Int) != 0) = false := by simp [hz1]
            have hnil : t1 = .nil := by
              cases t1 with
              | nil => rfl
              | node a z b =>
                have := HS1.out.tr.ne (in_L HS1.out.tr (y := z) (.inr (by simp [Tr.nodes])))
                have h2 := hty1.out
                exact absurd (h2.trans hz1) this
            subst hnil
            obtain ⟨s, st2, hst⟩ : ∃ s st2, st1 = s :: st2 := by
              rcases NE1.out with h | h
              · exact absurd rfl h
              · cases st1 with
                | nil => exact absurd rfl h
                | cons s st2 => exact ⟨s, st2, rfl⟩
            subst hst
            obtain ⟨k1, hk1⟩ : ∃ k, ss1 = k + 1 := ⟨st2.length, by have := HSS1.out; simp at this; omega⟩
            subst hk1
            have hk2 : st2.length = k1 := by have := HSS1.out; simp at this; omega
            obtain ⟨c', t', k', ls2, hlt, hroot, hs0, hsl⟩ := HS1.out.pop
            have own1 := HT1.out
            obtain ⟨gs, cs1, hform⟩ := ownsRow_succ own1
            injection hform with hf1 hf2 hf3
            subst hf1 hf3
            have hcell : wr.cell? ⟨gs, k1, none⟩ = some (.int .i32 s) := by
              rw [own1.cellAt k1 (by omega), stk_cons, List.getElem?_append_right (by simp [stk, hk2])]
              simp [stk, hk2]
            have own2 := own_take own1
            rw [show (stk (s :: st2)).take k1 = stk st2 by rw [stk_cons, List.take_left' (by simp [stk, hk2])]] at own2
            have O2 := Lib.hid own2
            have LS2 := Lib.hid ls2
            have HR2 := Lib.hid hroot
            have HLT := Lib.hid hlt
            have HK2 := Lib.hid hk2
            have hcap1 : k1 + 1 ≤ sc1 := by
              rcases own1.2 with ⟨e, _⟩ | ⟨g', cap', cur, e, _, _, h4, _⟩
              · cases e
              · injection e with _ _ e3; omega
            have sn : s ≤ n := Rt.bd HI1.out HX.out s (by rw [HLE.out]; exact hsl)
            have s1 : 1 ≤ s := Nat.pos_of_ne_zero hs0
            obtain ⟨r, hr⟩ : ∃ r, t'.root = r := ⟨_, rfl⟩
            rw [hr] at hroot
            have hrk : wr.cell? ⟨g, s * 9 + 1, none⟩ = some (.int .i32 r) := RTab.ck1 HI1.out.tab sn hroot
            have co := HI1.out.hob.2
            have hsz1 : w.heap.size ≤ wr.heap.size := HM1.out.size
            have HR3 := Lib.hid hr
            clear own1 own2 ls2 hroot hlt hk2 hs0 hsl hr hln1 HS1 HT1 NE1 HSS1 hgk hty1 hz1
            go_wp2_with (at_builtin; refine wpList_append_own _ rfl _ _ 25 rfl w.heap.size 3 i0 (.int .i64 0) 1 8 Try.underlying25 hi0 hz0 hz1 hz2 rfl (by decide) _ _ _ rfl (HO1.out.alloc _) ⟨wr.heap.size, 0, none⟩ 1 1 [.int .i64 ((s : Int) - 1)] rfl rfl (cell_one_new _ _ _) (by simp [Value.oneCell']) (by unfold maxLen; omega) (by omega) (by simp; omega) ?_; intro v' w1 hown' hgrow _; have stp := own_step HO1.out hsz1 hgrow O2.out (by decide); have c9 := (stp.1.cell (p := ⟨p, 1, none⟩) pB).trans co; have c10 := (stp.1.cell (p := ⟨g, s * 9 + 1, none⟩) gB).trans hrk; have OW := Lib.hid hown'; have SP := Lib.hid stp; clear hown' hgrow stp)
            obtain ⟨oa2, oc2, rfl⟩ := own_form OW.out
            have em : ((s - 1 : Nat) : Int) = (s : Int) - 1 := by omega
            have FO : Hid (w1.ownsRow w.heap.size 3 1 (.slice oa2 (out ++ [s - 1]).length oc2) (out ++ [s - 1]).length (outs (out ++ [s - 1]))) := by
              have h1 := OW.out
              have h2 : (out ++ [s - 1]).length = so + 1 := by rw [List.length_append, HSO.out]; rfl
              show World.ownsRow _ _ _ _ _ _ _
              rw [h2, outs_snoc, em]
              exact h1
            have FL : Hid ((out ++ [s - 1]).length = so + 1) := by show _ = _; rw [List.length_append, HSO.out]; rfl
            have FI : Hid (In w1 p g n cap T4 L V) := HI1.out.mod (Mod.of_below' SP.out.1 (Nat.le_refl _)) (.inl pB) (.inl gB)
            have FM : Hid (Mod g (g + 1) w w1) := HM1.out.below2 SP.out.1
            go_roundg k'
            case measure => exact HLT.out
            case rel => exact ⟨c', t', out ++ [s - 1], st2, T4, r, oa2, _, oc2, sc1, rfl, by rw [FL.out], by rw [HK2.out], HR3, FI, FM, LS2.out, FO, by rw [HK2.out]; exact SP.out.2⟩
          · have hb2 : ((y1 : Int) != 0) = true := by simp; omega
            cases t1 with
            | nil => exact absurd hty1.out.symm hz1
            | node a z b =>
              obtain rfl : z = y1 := hty1.out
              have hzn : z ≤ n := Rt.bd HI1.out HX.out z (by rw [HLE.out]; exact in_L HS1.out.tr (.inr (by simp [Tr.nodes])))
              have tr' : TrL T4 (up1 (lst L x.toNat)) (plug c1 (.node a z b)) := by rw [HLE.out]; exact HS1.out.tr
              have hkd := kid_le tr' (Rt.bd HI1.out HX.out) (t := .node a z b) hz1
              have PC := Lib.hid (push_any HI1.out.hob HI1.out.tab npg z hzn hn hkd)
              obtain ⟨a', b', ls2, tt2⟩ := HS1.out.push
              have LS2 := Lib.hid (ls2.down tt2)
              have GK : Hid (a'.nodes.length < gk) := by
                have h1 := hgk.out
                have h2 := ls2.rest
                have h3 := HS1.out.len
                have h4 := ls2.len
                have h5 := HS1.out.rest
                have e1 : (postC (tn T4) c1).length = (postC (tn (P.push T4 z)) c1).length := by
                  have := (push_rep HS1.out.tr).2.2.1
                  rw [postC_congr (fun q hq => by show (T4 q).turn = (P.push T4 z q).turn; rw [this q hq])]
                simp only [Tr.nodes, List.length_append, List.length_cons] at h1 h2 h5
                show _ < _
                omega
              have hrep := (plug_rep.1 ls2.tr.1).1
              have hl0 : (P.push T4 z z).k0 = a'.root := hrep.2.2.2.2.1.link
              obtain ⟨r, hr⟩ : ∃ r, a'.root = r := ⟨_, rfl⟩
              rw [hr] at hl0
              have HK0 := Lib.hid hl0
              have HR := Lib.hid hr
              have TR' := Lib.hid tr'
              have hsz1 : w.heap.size ≤ wr.heap.size := HM1.out.size
              clear tr' hkd ls2 tt2 hrep hl0 hr hln1 hgk NE1 HS1 hty1
              go_wp2_with fail
              refine PC.out.mono ?_
              rintro e w4 ⟨rfl, t4, m4⟩
              have I4 := Lib.hid (In.pushed HI1.out HX.out TR'.out m4 t4)
              have M4 : Hid (Mod g (g + 1) w w4) := HM1.out.trans m4
              have O4 := Lib.hid (own_mod HO1.out m4 gB)
              have S4 := Lib.hid (own_mod HT1.out m4 gB)
              have hsz4 : w.heap.size ≤ w4.heap.size := M4.out.size
              have co := I4.out.hob.2
              have ck := RTab.ck0 I4.out.tab hzn HK0.out
              clear t4 m4 HI1 HM1 HO1 HT1 PC
              go_wp2_with (at_builtin; refine wpList_append_own _ rfl _ _ 72 rfl w.heap.size 21 i1 (.int .i32 0) 1 4 Try.underlying72 hi1 hy0 hy1 hy2 rfl (by decide) _ _ _ rfl (S4.out.alloc _) ⟨w4.heap.size, 0, none⟩ 1 1 [.int .i32 (z : Nat)] rfl rfl (cell_one_new _ _ _) (by simp [Value.oneCell']) (by unfold maxLen; omega) (by omega) (by simp; omega) ?_; intro v' w5 hown' hgrow _; have stp := own_step S4.out hsz4 hgrow O4.out (by decide); have c9 := (stp.1.cell (p := ⟨p, 1, none⟩) pB).trans co; have c10 := (stp.1.cell (p := ⟨g, z * 9, none⟩) gB).trans ck; have OW := Lib.hid hown'; have SP := Lib.hid stp; clear hown' hgrow stp)
              obtain ⟨sa2, sc2, rfl⟩ := own_form OW.out
              have FS : Hid (w5.ownsRow w.heap.size 21 1 (.slice sa2 (ss1 + 1) sc2) (ss1 + 1) (stk (z :: st1))) := by
                have h1 := OW.out
                show World.ownsRow _ _ _ _ _ _ _
                rw [stk_cons]; exact h1
              have FL : Hid ((z :: st1).length = ss1 + 1) := by show _ = _; rw [List.length_cons, HSS1.out]
              have FI : Hid (In w5 p g n cap (P.push T4 z) L V) := I4.out.mod (Mod.of_below' SP.out.1 (Nat.le_refl _)) (.inl pB) (.inl gB)
              have FM : Hid (Mod g (g + 1) w w5) := M4.out.below2 SP.out.1
              have FN : Hid (a'.root ≠ 0 ∨ z :: st1 ≠ []) := .inr (by simp)
              go_roundg a'.nodes.length
              case measure => exact GK.out
              case rel => exact ⟨_, a', z :: st1, _, r, sa2, sc2, ss1 + 1, rfl, rfl, rfl, FL, HR, FN, FI, FM, LS2.out, SP.out.2, FS⟩
theorem listc40 {w : World} {lo hi : Nat} {v : Value} {L : List (List Nat)} {V : List Int} (h : PSo w lo hi v (some (L, V))) (x : Nat) (hx : x < V.length) : Calls Try.prog 14 #[v, .int .i64 x] w (GivesC w lo hi v (some (L, V)) (lst L x)) := by
  obtain ⟨p, rfl, hp⟩ := h
  have := list_okc hp x (by omega) (by omega)
  simpa only [Int.toNat_natCast] using this
end Go.Proofs.Ytblopfgnhokocaa
