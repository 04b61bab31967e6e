/- THE CONTRACT of package splay's pull. -/
import Derived.Test.YtblopfgnhokocaaA
namespace Go.Proofs.Ytblopfgnhokocaa
open Go.RowKit P
set_option linter.unusedVariables false
set_option linter.unusedSimpArgs false

def carry (a b : Int) : Int := (lo64 a + lo64 b + 0) / 18446744073709551616
theorem lo_bd (a : Int) : 0 ≤ lo64 a ∧ lo64 a < 18446744073709551616 := by unfold lo64; omega
theorem hi_bd (a : Int) : 0 ≤ hi64 a ∧ hi64 a < 18446744073709551616 := by unfold hi64; omega
theorem carry_bd (a b : Int) : 0 ≤ carry a b ∧ carry a b ≤ 1 := by have := lo_bd a; have := lo_bd b; unfold carry; omega
theorem lo_eq (a b : Int) : (lo64 a + lo64 b + 0) % 18446744073709551616 = lo64 (a + b) := by unfold lo64; omega
theorem hi_eq (a b : Int) : (hi64 a + hi64 b + carry a b) % 18446744073709551616 = hi64 (a + b) := by unfold carry hi64 lo64; omega
theorem add_run (x y c : Int) (hx : 0 ≤ x) (hy : 0 ≤ y) (hc0 : 0 ≤ c) (hc : c ≤ 1) (w : World) :
    (callFunc 57 #[.int .u64 x, .int .u64 y, .int .u64 c]).run Try.prog w = .ok (.value (.tuple #[.int .u64 ((x + y + c) % 18446744073709551616), .int .u64 ((x + y + c) / 18446744073709551616)])) w := by
  rw [run_callFunc_extern Try.func57 (by kernel_rfl) (by kernel_rfl) (by kernel_rfl) (e := add64Entry) (by kernel_rfl), run_add64 x y c hx hy hc0 hc]
  rfl
theorem add_lo (a b : Int) (w : World) : (callFunc 57 #[.int .u64 (lo64 a), .int .u64 (lo64 b), .int .u64 0]).run Try.prog w = .ok (.value (.tuple #[.int .u64 (lo64 (a + b)), .int .u64 (carry a b)])) w := by
  rw [add_run _ _ _ (lo_bd a).1 (lo_bd b).1 (by omega) (by omega), lo_eq]; rfl
def carry2 (a b : Int) : Int := (hi64 a + hi64 b + carry a b) / 18446744073709551616
theorem add_hi (a b : Int) (w : World) : (callFunc 57 #[.int .u64 (hi64 a), .int .u64 (hi64 b), .int .u64 (carry a b)]).run Try.prog w = .ok (.value (.tuple #[.int .u64 (hi64 (a + b)), .int .u64 (carry2 a b)])) w := by
  rw [add_run _ _ _ (hi_bd a).1 (hi_bd b).1 (carry_bd a b).1 (carry_bd a b).2, hi_eq]; rfl
theorem hi_val {v : Int} (h : In64 v) : IntKind.u64.wrap (v / 9223372036854775808) = hi64 v := by
  have h1 := h.1
  have h2 := h.2
  rw [IntKind.wrap_u64]; unfold hi64; omega
theorem lo_val {v : Int} (h : In64 v) : IntKind.u64.wrap v = lo64 v := by rw [IntKind.wrap_u64]; unfold lo64; rfl
theorem upd_upd (T : Tb) (x : Nat) (d e : Nd) : upd (upd T x d) x e = upd T x e := by funext y; unfold upd; split <;> rfl
/-- What pull may count on. -/
def PullOK (T : Tb) (n x : Nat) : Prop := ∀ k, k = (T x).k0 ∨ k = (T x).k1 → k ≤ n ∧ k ≠ x ∧ (k ≠ 0 → (T k).mn ≤ n ∧ (T k).size ≤ 1000000)
/-- The node behind k children. -/
def PD (T : Tb) (x : Nat) : Nat → Nd
  | 0 => pull0 T x
  | 1 => addN T (pull0 T x) (T x).k0
  | _ => pullN T x
theorem PD_val (T : Tb) (x k : Nat) : (PD T x k).val = (T x).val := by
  match k with
  | 0 => rfl
  | 1 => exact (addN_k0 _ _ _).2.2.2.2
  | k + 2 => exact (pullN_k T x).2.2.2.2
theorem addN_mn {T : Tb} {d : Nd} {k n : Nat} (h : d.mn ≤ n) (hk : k ≠ 0 → (T k).mn ≤ n) : (addN T d k).mn ≤ n := by
  unfold addN; split
  · exact h
  · rename_i h0; show bet T _ _ ≤ n; unfold bet; split
    · exact hk h0
    · exact h
theorem PD_mn {T : Tb} {n x : Nat} (h : PullOK T n x) (hx : x ≤ n) (k : Nat) : (PD T x k).mn ≤ n := by
  have h1 : (PD T x 1).mn ≤ n := addN_mn hx (fun h0 => ((h _ (.inl rfl)).2.2 h0).1)
  match k with
  | 0 => exact hx
  | 1 => exact h1
  | k + 2 => exact addN_mn h1 (fun h0 => ((h _ (.inr rfl)).2.2 h0).1)
theorem PD_size {T : Tb} {n x : Nat} (h : PullOK T n x) (k : Nat) (hk : k < 2) : (PD T x k).size ≤ 1000001 := by
  match k with
  | 0 => show 1 ≤ _; omega
  | 1 =>
    show (addN T (pull0 T x) (T x).k0).size ≤ _
    unfold addN; split
    · show 1 ≤ _; omega
    · rename_i h0
      have := ((h _ (.inl rfl)).2.2 h0).2
      show 1 + _ ≤ _; omega

theorem upd_val {T : Tb} {x : Nat} {d : Nd} (h : d.val = (T x).val) (y : Nat) : (upd T x d y).val = (T y).val := by
  unfold upd; split
  · rename_i e; subst e; exact h
  · rfl
theorem RTab.cell {w : World} {g n : Nat} {T : Tb} (h : Tab w g n T) {x f : Nat} (hx : x ≤ n) (hf : f < 9) {d : Nd} (e : T x = d) : w.cell? ⟨g, x * 9 + f, none⟩ = some (cellOf d f) := by
  subst e; exact h.1 x f hx hf
theorem RTab.cval {w : World} {g n : Nat} {T : Tb} (h : Tab w g n T) {x : Nat} (hx : x ≤ n) {v : Int} (e : (T x).val = v) : w.cell? ⟨g, x * 9 + 6, none⟩ = some (.int .i64 v) := by
  subst e; exact h.1 x 6 hx (by omega)
/-- What pull first writes. -/
theorem pull0_tab {w : World} {g n x : Nat} {T : Tb} (h : Tab w g n T) (hx : x ≤ n) (hv : In64 (T x).val) :
    Tab ((((w.setCell ⟨g, x * 9 + 3, none⟩ (.int .i32 1)).setCell ⟨g, x * 9 + 4, none⟩ (.int .i32 x)).setCell ⟨g, x * 9 + 7, none⟩ (.int .u64 (IntKind.u64.wrap ((T x).val / 9223372036854775808)))).setCell ⟨g, x * 9 + 8, none⟩ (.int .u64 (IntKind.u64.wrap (T x).val))) g n (upd T x (PD T x 0)) := by
  rw [hi_val hv, lo_val hv]
  refine RTab.ext ((((RTab.put h hx (f := 3) (by omega)).put hx (f := 4) (by omega)).put hx (f := 7) (by omega)).put hx (f := 8) (by omega)) (fun y k hy hk => ?_)
  unfold putC upd
  by_cases e : y = x
  · subst e
    revert hk
    refine below9 (p := fun k => (if y = y ∧ k = 8 then _ else if y = y ∧ k = 7 then _ else if y = y ∧ k = 4 then _ else if y = y ∧ k = 3 then _ else cellOf (T y) k) = cellOf (if y = y then PD T y 0 else T y) k) ?_ ?_ ?_ ?_ ?_ ?_ ?_ ?_ ?_ k <;> simp [cellOf, PD, pull0]
  · simp [e]
/-- One child more: the least node stays. -/
theorem keep_tab {w : World} {g n x : Nat} {s : Int} {T : Tb} {d e : Nd} (h : Tab w g n (upd T x d)) (hx : x ≤ n) (h0 : e.k0 = d.k0) (h1 : e.k1 = d.k1) (h2 : e.up = d.up) (h4 : e.mn = d.mn) (h5 : e.turn = d.turn) (h6 : e.val = d.val) (hs : (e.size : Int) = s) {s1 s2 : Int} (hs1 : lo64 e.sum = s1) (hs2 : hi64 e.sum = s2) :
    Tab (((w.setCell ⟨g, x * 9 + 3, none⟩ (.int .i32 s)).setCell ⟨g, x * 9 + 8, none⟩ (.int .u64 s1)).setCell ⟨g, x * 9 + 7, none⟩ (.int .u64 s2)) g n (upd T x e) := by
  refine RTab.ext (((RTab.put h hx (f := 3) (by omega)).put hx (f := 8) (by omega)).put hx (f := 7) (by omega)) (fun y k hy hk => ?_)
  unfold putC upd
  by_cases q : y = x
  · subst q
    revert hk
    refine below9 (p := fun k => (if y = y ∧ k = 7 then _ else if y = y ∧ k = 8 then _ else if y = y ∧ k = 3 then _ else cellOf (if y = y then d else T y) k) = cellOf (if y = y then e else T y) k) ?_ ?_ ?_ ?_ ?_ ?_ ?_ ?_ ?_ k <;> simp [cellOf, h0, h1, h2, h4, h5, h6, hs, hs1, hs2]
  · simp [q]
theorem less_tab {w : World} {g n x m : Nat} {s : Int} {T : Tb} {d e : Nd} (h : Tab w g n (upd T x d)) (hx : x ≤ n) (h0 : e.k0 = d.k0) (h1 : e.k1 = d.k1) (h2 : e.up = d.up) (h4 : e.mn = m) (h5 : e.turn = d.turn) (h6 : e.val = d.val) (hs : (e.size : Int) = s) {s1 s2 : Int} (hs1 : lo64 e.sum = s1) (hs2 : hi64 e.sum = s2) :
    Tab ((((w.setCell ⟨g, x * 9 + 3, none⟩ (.int .i32 s)).setCell ⟨g, x * 9 + 8, none⟩ (.int .u64 s1)).setCell ⟨g, x * 9 + 7, none⟩ (.int .u64 s2)).setCell ⟨g, x * 9 + 4, none⟩ (.int .i32 m)) g n (upd T x e) := by
  refine RTab.ext ((((RTab.put h hx (f := 3) (by omega)).put hx (f := 8) (by omega)).put hx (f := 7) (by omega)).put hx (f := 4) (by omega)) (fun y k hy hk => ?_)
  unfold putC upd
  by_cases q : y = x
  · subst q
    revert hk
    refine below9 (p := fun k => (if y = y ∧ k = 4 then _ else if y = y ∧ k = 7 then _ else if y = y ∧ k = 8 then _ else if y = y ∧ k = 3 then _ else cellOf (if y = y then d else T y) k) = cellOf (if y = y then e else T y) k) ?_ ?_ ?_ ?_ ?_ ?_ ?_ ?_ ?_ k <;> simp [cellOf, h0, h1, h2, h4, h5, h6, hs, hs1, hs2]
  · simp [q]

/-- The round's end: the child's least node is the better one, or not. -/
theorem fin_less {w : World} {g n x k om ds os : Nat} {T : Tb} {d o E : Nd} {s1 s2 : Int} (h : Tab w g n (upd T x d)) (hx : x ≤ n) (HE : E = addN T d k) (hz : ¬ k = 0) (ho : T k = o) (S1 : lo64 (d.sum + o.sum) = s1) (S2 : hi64 (d.sum + o.sum) = s2)
    (DS : d.size = ds) (OS : o.size = os) (OM : o.mn = om) (hb : bet T om d.mn = om) :
    Tab ((((w.setCell ⟨g, x * 9 + 3, none⟩ (.int .i32 ((ds : Int) + os))).setCell ⟨g, x * 9 + 8, none⟩ (.int .u64 s1)).setCell ⟨g, x * 9 + 7, none⟩ (.int .u64 s2)).setCell ⟨g, x * 9 + 4, none⟩ (.int .i32 om)) g n (upd T x E) := by
  subst HE
  have q := addN_k0 T d k
  have e : addN T d k = { d with size := d.size + o.size, sum := d.sum + o.sum, mn := bet T o.mn d.mn } := by unfold addN; rw [if_neg hz, ho]
  refine less_tab h hx q.1 q.2.1 q.2.2.1 ?_ q.2.2.2.1 q.2.2.2.2 ?_ ?_ ?_
  · rw [e]; show bet T o.mn d.mn = om; rw [OM, hb]
  · rw [e]; show ((d.size + o.size : Nat) : Int) = _; rw [DS, OS]; omega
  · rw [e]; exact S1
  · rw [e]; exact S2
theorem fin_keep {w : World} {g n x k om ds os : Nat} {T : Tb} {d o E : Nd} {s1 s2 : Int} (h : Tab w g n (upd T x d)) (hx : x ≤ n) (HE : E = addN T d k) (hz : ¬ k = 0) (ho : T k = o) (S1 : lo64 (d.sum + o.sum) = s1) (S2 : hi64 (d.sum + o.sum) = s2)
    (DS : d.size = ds) (OS : o.size = os) (OM : o.mn = om) (hb : bet T om d.mn = d.mn) :
    Tab (((w.setCell ⟨g, x * 9 + 3, none⟩ (.int .i32 ((ds : Int) + os))).setCell ⟨g, x * 9 + 8, none⟩ (.int .u64 s1)).setCell ⟨g, x * 9 + 7, none⟩ (.int .u64 s2)) g n (upd T x E) := by
  subst HE
  have q := addN_k0 T d k
  have e : addN T d k = { d with size := d.size + o.size, sum := d.sum + o.sum, mn := bet T o.mn d.mn } := by unfold addN; rw [if_neg hz, ho]
  refine keep_tab h hx q.1 q.2.1 q.2.2.1 ?_ q.2.2.2.1 q.2.2.2.2 ?_ ?_ ?_
  · rw [e]; show bet T o.mn d.mn = d.mn; rw [OM, hb]
  · rw [e]; show ((d.size + o.size : Nat) : Int) = _; rw [DS, OS]; omega
  · rw [e]; exact S1
  · rw [e]; exact S2
theorem bet_yes {T : Tb} {a b : Nat} (h : (T a).val < (T b).val ∨ ((T a).val = (T b).val ∧ a < b)) : bet T a b = a := if_pos h
theorem bet_no {T : Tb} {a b : Nat} (h : ¬ ((T a).val < (T b).val ∨ ((T a).val = (T b).val ∧ a < b))) : bet T a b = b := if_neg h

set_option maxRecDepth 100000 in
set_option maxHeartbeats 4000000 in
theorem pull_any {w : World} {p g n cap : Nat} {T : Tb} (hO : Ob w p g n cap) (hT : Tab w g n T) (hpg : p ≠ g) (x : Nat) (hx : x ≤ n) (hn : n ≤ 65536) (hK : PullOK T n x) (hV : In64 (T x).val) :
    Calls Try.prog 41 #[.pointer (some ⟨p, 0, none⟩), .int .i32 x] w fun e w' => e = .returned (.tuple #[]) ∧ Tab w' g n (pull T x) ∧ Mod g (g + 1) w w' := by
  have c1 := hO.2
  have c0 : w.cell? ⟨g, x * 9, none⟩ = some (.int .i32 (T x).k0) := hT.1 x 0 hx (by omega)
  have c2 : w.cell? ⟨g, x * 9 + 1, none⟩ = some (.int .i32 (T x).k1) := hT.1 x 1 hx (by omega)
  have c3 : w.cell? ⟨g, x * 9 + 3, none⟩ = some (.int .i32 (T x).size) := hT.1 x 3 hx (by omega)
  have c4 : w.cell? ⟨g, x * 9 + 4, none⟩ = some (.int .i32 (T x).mn) := hT.1 x 4 hx (by omega)
  have c6 : w.cell? ⟨g, x * 9 + 6, none⟩ = some (.int .i64 (T x).val) := hT.1 x 6 hx (by omega)
  have c7 : w.cell? ⟨g, x * 9 + 7, none⟩ = some (.int .u64 (hi64 (T x).sum)) := hT.1 x 7 hx (by omega)
  have c8 : w.cell? ⟨g, x * 9 + 8, none⟩ = some (.int .u64 (lo64 (T x).sum)) := hT.1 x 8 hx (by omega)
  have f3 := hT.2 (x * 9 + 3)
  have f4 := hT.2 (x * 9 + 4)
  have f7 := hT.2 (x * 9 + 7)
  have f8 := hT.2 (x * 9 + 8)
  obtain ⟨a, ha⟩ : ∃ a, (T x).k0 = a := ⟨_, rfl⟩
  obtain ⟨b, hb⟩ : ∃ b, (T x).k1 = b := ⟨_, rfl⟩
  obtain ⟨v, hv⟩ : ∃ v, (T x).val = v := ⟨_, rfl⟩
  rw [ha] at c0
  rw [hb] at c2
  rw [hv] at c6 hV
  have Ha := Lib.hid ha
  have Hb := Lib.hid hb
  have Hv := Lib.hid hv
  have hpg' : ¬ g = p := fun e => hpg e.symm
  have HO := Lib.hid hO
  have HT := Lib.hid hT
  have HK := Lib.hid hK
  have W0 : Hid (Tab ((((w.setCell ⟨g, x * 9 + 3, none⟩ (.int .i32 1)).setCell ⟨g, x * 9 + 4, none⟩ (.int .i32 x)).setCell ⟨g, x * 9 + 7, none⟩ (.int .u64 (IntKind.u64.wrap (v / 9223372036854775808)))).setCell ⟨g, x * 9 + 8, none⟩ (.int .u64 (IntKind.u64.wrap v))) g n (upd T x (PD T x 0))) := by
    have := pull0_tab hT hx (by rw [hv]; exact hV); rw [hv] at this; exact this
  have v1 := hV.1
  have v2 := hV.2
  have i0 := idx0 a b
  have i1 := idx1 a b
  clear ha hb hv hO hT hK hV
  go_enter Try.func41, Try.ntmps41
  go_wp2
  go_region
  go_wp2
  go_loopw [45] (fun i wr => ∃ k : Nat, k ≤ 2 ∧ i = .int .i64 k ∧ Hid (Tab wr g n (upd T x (PD T x k))) ∧ Hid (Mod g (g + 1) w wr)) (fun i _ => 2 - (intOf i).toNat)
  case atStart => exact ⟨0, by omega, rfl, W0.out, (((((Mod.refl _ _ _).setg _ _).setg _ _).setg _ _).setg _ _).drew⟩
  case round =>
    obtain ⟨k, hk2, rfl, HW, HM⟩ := hrel
    clear c0 c1 c2 c3 c4 c6 c7 c8 f3 f4 f7 f8 W0
    obtain rfl | rfl | rfl : k = 0 ∨ k = 1 ∨ k = 2 := by omega
    · by_cases hz : a = 0
      · have hzb : ((a : Int) == 0) = true := by simp [hz]
        have HN : Hid (Tab wr g n (upd T x (PD T x 1))) := by
          have := HW.out
          show Tab _ _ _ _
          rw [show PD T x 1 = PD T x 0 by show addN T _ _ = _; rw [Ha.out, hz]; rfl]
          exact this
        clear hz
        go_wp2
        go_roundw
        case rel => exact ⟨1, by omega, rfl, HN, HM⟩
        case measure => simp [intOf]
      · have hzb : ((a : Int) == 0) = false := by simp; omega
        obtain ⟨hvn, hvx, hvm⟩ := HK.out a (.inl Ha.out.symm)
        obtain ⟨hmn, hsz⟩ := hvm hz
        have eV : upd T x (PD T x 0) a = T a := upd_ne hvx
        have eX : upd T x (PD T x 0) x = PD T x 0 := upd_same _ _ _
        have eVal : ∀ y, (upd T x (PD T x 0) y).val = (T y).val := upd_val (PD_val T x 0)
        have q3 : wr.cell? ⟨g, a * 9 + 3, none⟩ = some (.int .i32 (T a).size) := RTab.cell HW.out (f := 3) hvn (by omega) eV
        have q4 : wr.cell? ⟨g, a * 9 + 4, none⟩ = some (.int .i32 (T a).mn) := RTab.cell HW.out (f := 4) hvn (by omega) eV
        have q7 : wr.cell? ⟨g, a * 9 + 7, none⟩ = some (.int .u64 (hi64 (T a).sum)) := RTab.cell HW.out (f := 7) hvn (by omega) eV
        have q8 : wr.cell? ⟨g, a * 9 + 8, none⟩ = some (.int .u64 (lo64 (T a).sum)) := RTab.cell HW.out (f := 8) hvn (by omega) eV
        have x3 : wr.cell? ⟨g, x * 9 + 3, none⟩ = some (.int .i32 (PD T x 0).size) := RTab.cell HW.out (f := 3) hx (by omega) eX
        have x4 : wr.cell? ⟨g, x * 9 + 4, none⟩ = some (.int .i32 (PD T x 0).mn) := RTab.cell HW.out (f := 4) hx (by omega) eX
        have x7 : wr.cell? ⟨g, x * 9 + 7, none⟩ = some (.int .u64 (hi64 (PD T x 0).sum)) := RTab.cell HW.out (f := 7) hx (by omega) eX
        have x8 : wr.cell? ⟨g, x * 9 + 8, none⟩ = some (.int .u64 (lo64 (PD T x 0).sum)) := RTab.cell HW.out (f := 8) hx (by omega) eX
        have hdm := PD_mn HK.out hx 0
        have m6 : wr.cell? ⟨g, (T a).mn * 9 + 6, none⟩ = some (.int .i64 (T (T a).mn).val) := RTab.cval HW.out hmn (eVal _)
        have n6 : wr.cell? ⟨g, (PD T x 0).mn * 9 + 6, none⟩ = some (.int .i64 (T (PD T x 0).mn).val) := RTab.cval HW.out hdm (eVal _)
        have hds := PD_size HK.out 0 (by omega)
        have co : wr.cell? ⟨p, 1, none⟩ = some (.slice (some ⟨g, 0, none⟩) (n + 1) cap) := (HO.out.mod HM.out (by omega)).2
        have z3 := HW.out.2 (x * 9 + 3)
        have z4 := HW.out.2 (x * 9 + 4)
        have z7 := HW.out.2 (x * 9 + 7)
        have z8 := HW.out.2 (x * 9 + 8)
        have A1 := fun w => add_lo (PD T x 0).sum (T a).sum w
        have A2 := fun w => add_hi (PD T x 0).sum (T a).sum w
        have HE := Lib.hid (show PD T x 1 = addN T (PD T x 0) a by show addN T _ _ = _; rw [Ha.out]; rfl)
        have HZ := Lib.hid hz
        obtain ⟨d, hd⟩ : ∃ d, PD T x 0 = d := ⟨_, rfl⟩
        obtain ⟨o, ho⟩ : ∃ o, T a = o := ⟨_, rfl⟩
        have HO2 := Lib.hid ho
        rw [hd] at x3 x4 x7 x8 n6 hdm hds A1 A2 HE HW
        rw [ho] at q3 q4 q7 q8 m6 hmn hsz A1 A2
        obtain ⟨c, hc⟩ : ∃ c, carry d.sum o.sum = c := ⟨_, rfl⟩
        rw [hc] at A1 A2
        obtain ⟨s1, hs1⟩ : ∃ s, lo64 (d.sum + o.sum) = s := ⟨_, rfl⟩
        obtain ⟨s2, hs2⟩ : ∃ s, hi64 (d.sum + o.sum) = s := ⟨_, rfl⟩
        rw [hs1] at A1
        rw [hs2] at A2
        have S1 := Lib.hid hs1
        have S2 := Lib.hid hs2
        obtain ⟨va, hva⟩ : ∃ a, (T o.mn).val = a := ⟨_, rfl⟩
        obtain ⟨vb, hvb⟩ : ∃ b, (T d.mn).val = b := ⟨_, rfl⟩
        rw [hva] at m6
        rw [hvb] at n6
        have VA := Lib.hid hva
        have VB := Lib.hid hvb
        obtain ⟨om, hom⟩ : ∃ a, o.mn = a := ⟨_, rfl⟩
        obtain ⟨dm, hdm2⟩ : ∃ a, d.mn = a := ⟨_, rfl⟩
        have OM := Lib.hid hom
        have DM := Lib.hid hdm2
        rw [hom] at q4 m6 hmn
        rw [hdm2] at x4 n6 hdm
        have hs3 : ((d.size : Int) + o.size) ≤ 3000000 := by omega
        obtain ⟨ds, hds2⟩ : ∃ a, d.size = a := ⟨_, rfl⟩
        obtain ⟨os, hos2⟩ : ∃ a, o.size = a := ⟨_, rfl⟩
        have DS := Lib.hid hds2
        have OS := Lib.hid hos2
        rw [hds2] at x3 hs3 hds
        rw [hos2] at q3 hs3 hsz
        have j0 : (0 : Int) ≤ om := by omega
        have j1 : (om : Int) < (n : Int) + 1 := by omega
        have j2 : (0 : Int) ≤ dm := by omega
        have j3 : (dm : Int) < (n : Int) + 1 := by omega
        clear hz hd ho hc hs1 hs2 hva hvb hom hdm2 hds2 hos2 eV eX eVal hvm
        by_cases t1 : va < vb
        · have b1 : decide (va < vb) = true := by simpa using t1
          have HBT : Hid (bet T om d.mn = om) := bet_yes (by rw [← OM.out, VA.out, VB.out]; exact .inl t1)
          clear t1
          go_wp2
          go_region
          go_wp2
          go_region
          go_wp2
          go_region
          go_wp2
          go_quiet (fail)
          go_wp2
          go_quiet (fail)
          go_wp2
          go_roundw
          case rel => exact ⟨1, by omega, rfl, fin_less HW.out hx HE.out HZ.out HO2.out S1.out S2.out DS.out OS.out OM.out HBT.out, (((((HM.out.setg _ _).setg _ _).setg _ _).setg _ _)).drewN _⟩
          case measure => simp [intOf]
        · have b1 : decide (va < vb) = false := by simpa using t1
          by_cases t2 : va = vb
          · have b2 : (va == vb) = true := by simpa using t2
            by_cases t3 : om < dm
            · have b3 : decide (om < dm) = true := by simpa using t3
              have b4 : decide ((om : Int) < dm) = true := by simpa using t3
              have HBT : Hid (bet T om d.mn = om) := bet_yes (by rw [← OM.out, VA.out, VB.out, OM.out, DM.out]; exact .inr ⟨t2, t3⟩)
              clear t1 t2 t3
              go_wp2
              go_region
              go_wp2
              go_region
              go_wp2
              go_region
              go_wp2
              go_quiet (fail)
              go_wp2
              go_quiet (fail)
              go_wp2
              go_roundw
              case rel => exact ⟨1, by omega, rfl, fin_less HW.out hx HE.out HZ.out HO2.out S1.out S2.out DS.out OS.out OM.out HBT.out, (((((HM.out.setg _ _).setg _ _).setg _ _).setg _ _)).drewN _⟩
              case measure => simp [intOf]
            · have b3 : decide (om < dm) = false := by simpa using t3
              have b4 : decide ((om : Int) < dm) = false := by simpa using t3
              have HBT : Hid (bet T om d.mn = d.mn) := bet_no (by rw [← OM.out, VA.out, VB.out, OM.out, DM.out]; omega)
              clear t1 t2 t3
              go_wp2
              go_region
              go_wp2
              go_region
              go_wp2
              go_region
              go_wp2
              go_quiet (fail)
              go_wp2
              go_quiet (fail)
              go_wp2
              go_roundw
              case rel => exact ⟨1, by omega, rfl, fin_keep HW.out hx HE.out HZ.out HO2.out S1.out S2.out DS.out OS.out OM.out HBT.out, ((((HM.out.setg _ _).setg _ _).setg _ _)).drewN _⟩
              case measure => simp [intOf]
          · have b2 : (va == vb) = false := by simpa using t2
            have HBT : Hid (bet T om d.mn = d.mn) := bet_no (by rw [← OM.out, VA.out, VB.out, OM.out, DM.out]; omega)
            clear t1 t2
            go_wp2
            go_region
            go_wp2
            go_region
            go_wp2
            go_region
            go_wp2
            go_quiet (fail)
            go_wp2
            go_quiet (fail)
            go_wp2
            go_roundw
            case rel => exact ⟨1, by omega, rfl, fin_keep HW.out hx HE.out HZ.out HO2.out S1.out S2.out DS.out OS.out OM.out HBT.out, ((((HM.out.setg _ _).setg _ _).setg _ _)).drewN _⟩
            case measure => simp [intOf]
    · by_cases hz : b = 0
      · have hzb : ((b : Int) == 0) = true := by simp [hz]
        have HN : Hid (Tab wr g n (upd T x (PD T x 2))) := by
          have := HW.out
          show Tab _ _ _ _
          rw [show PD T x 2 = PD T x 1 by show addN T _ _ = _; rw [Hb.out, hz]; rfl]
          exact this
        clear hz
        go_wp2
        go_roundw
        case rel => exact ⟨2, by omega, rfl, HN, HM⟩
        case measure => simp [intOf]
      · have hzb : ((b : Int) == 0) = false := by simp; omega
        obtain ⟨hvn, hvx, hvm⟩ := HK.out b (.inr Hb.out.symm)
        obtain ⟨hmn, hsz⟩ := hvm hz
        have eV : upd T x (PD T x 1) b = T b := upd_ne hvx
        have eX : upd T x (PD T x 1) x = PD T x 1 := upd_same _ _ _
        have eVal : ∀ y, (upd T x (PD T x 1) y).val = (T y).val := upd_val (PD_val T x 1)
        have q3 : wr.cell? ⟨g, b * 9 + 3, none⟩ = some (.int .i32 (T b).size) := RTab.cell HW.out (f := 3) hvn (by omega) eV
        have q4 : wr.cell? ⟨g, b * 9 + 4, none⟩ = some (.int .i32 (T b).mn) := RTab.cell HW.out (f := 4) hvn (by omega) eV
        have q7 : wr.cell? ⟨g, b * 9 + 7, none⟩ = some (.int .u64 (hi64 (T b).sum)) := RTab.cell HW.out (f := 7) hvn (by omega) eV
        have q8 : wr.cell? ⟨g, b * 9 + 8, none⟩ = some (.int .u64 (lo64 (T b).sum)) := RTab.cell HW.out (f := 8) hvn (by omega) eV
        have x3 : wr.cell? ⟨g, x * 9 + 3, none⟩ = some (.int .i32 (PD T x 1).size) := RTab.cell HW.out (f := 3) hx (by omega) eX
        have x4 : wr.cell? ⟨g, x * 9 + 4, none⟩ = some (.int .i32 (PD T x 1).mn) := RTab.cell HW.out (f := 4) hx (by omega) eX
        have x7 : wr.cell? ⟨g, x * 9 + 7, none⟩ = some (.int .u64 (hi64 (PD T x 1).sum)) := RTab.cell HW.out (f := 7) hx (by omega) eX
        have x8 : wr.cell? ⟨g, x * 9 + 8, none⟩ = some (.int .u64 (lo64 (PD T x 1).sum)) := RTab.cell HW.out (f := 8) hx (by omega) eX
        have hdm := PD_mn HK.out hx 1
        have m6 : wr.cell? ⟨g, (T b).mn * 9 + 6, none⟩ = some (.int .i64 (T (T b).mn).val) := RTab.cval HW.out hmn (eVal _)
        have n6 : wr.cell? ⟨g, (PD T x 1).mn * 9 + 6, none⟩ = some (.int .i64 (T (PD T x 1).mn).val) := RTab.cval HW.out hdm (eVal _)
        have hds := PD_size HK.out 1 (by omega)
        have co : wr.cell? ⟨p, 1, none⟩ = some (.slice (some ⟨g, 0, none⟩) (n + 1) cap) := (HO.out.mod HM.out (by omega)).2
        have z3 := HW.out.2 (x * 9 + 3)
        have z4 := HW.out.2 (x * 9 + 4)
        have z7 := HW.out.2 (x * 9 + 7)
        have z8 := HW.out.2 (x * 9 + 8)
        have A1 := fun w => add_lo (PD T x 1).sum (T b).sum w
        have A2 := fun w => add_hi (PD T x 1).sum (T b).sum w
        have HE := Lib.hid (show PD T x 2 = addN T (PD T x 1) b by show addN T _ _ = _; rw [Hb.out]; rfl)
        have HZ := Lib.hid hz
        obtain ⟨d, hd⟩ : ∃ d, PD T x 1 = d := ⟨_, rfl⟩
        obtain ⟨o, ho⟩ : ∃ o, T b = o := ⟨_, rfl⟩
        have HO2 := Lib.hid ho
        rw [hd] at x3 x4 x7 x8 n6 hdm hds A1 A2 HE HW
        rw [ho] at q3 q4 q7 q8 m6 hmn hsz A1 A2
        obtain ⟨c, hc⟩ : ∃ c, carry d.sum o.sum = c := ⟨_, rfl⟩
        rw [hc] at A1 A2
        obtain ⟨s1, hs1⟩ : ∃ s, lo64 (d.sum + o.sum) = s := ⟨_, rfl⟩
        obtain ⟨s2, hs2⟩ : ∃ s, hi64 (d.sum + o.sum) = s := ⟨_, rfl⟩
        rw [hs1] at A1
        rw [hs2] at A2
        have S1 := Lib.hid hs1
        have S2 := Lib.hid hs2
        obtain ⟨va, hva⟩ : ∃ a, (T o.mn).val = a := ⟨_, rfl⟩
        obtain ⟨vb, hvb⟩ : ∃ b, (T d.mn).val = b := ⟨_, rfl⟩
        rw [hva] at m6
        rw [hvb] at n6
        have VA := Lib.hid hva
        have VB := Lib.hid hvb
        obtain ⟨om, hom⟩ : ∃ a, o.mn = a := ⟨_, rfl⟩
        obtain ⟨dm, hdm2⟩ : ∃ a, d.mn = a := ⟨_, rfl⟩
        have OM := Lib.hid hom
        have DM := Lib.hid hdm2
        rw [hom] at q4 m6 hmn
        rw [hdm2] at x4 n6 hdm
        have hs3 : ((d.size : Int) + o.size) ≤ 3000000 := by omega
        obtain ⟨ds, hds2⟩ : ∃ a, d.size = a := ⟨_, rfl⟩
        obtain ⟨os, hos2⟩ : ∃ a, o.size = a := ⟨_, rfl⟩
        have DS := Lib.hid hds2
        have OS := Lib.hid hos2
        rw [hds2] at x3 hs3 hds
        rw [hos2] at q3 hs3 hsz
        have j0 : (0 : Int) ≤ om := by omega
        have j1 : (om : Int) < (n : Int) + 1 := by omega
        have j2 : (0 : Int) ≤ dm := by omega
        have j3 : (dm : Int) < (n : Int) + 1 := by omega
        clear hz hd ho hc hs1 hs2 hva hvb hom hdm2 hds2 hos2 eV eX eVal hvm
        by_cases t1 : va < vb
        · have b1 : decide (va < vb) = true := by simpa using t1
          have HBT : Hid (bet T om d.mn = om) := bet_yes (by rw [← OM.out, VA.out, VB.out]; exact .inl t1)
          clear t1
          go_wp2
          go_region
          go_wp2
          go_region
          go_wp2
          go_region
          go_wp2
          go_quiet (fail)
          go_wp2
          go_quiet (fail)
          go_wp2
          go_roundw
          case rel => exact ⟨2, by omega, rfl, fin_less HW.out hx HE.out HZ.out HO2.out S1.out S2.out DS.out OS.out OM.out HBT.out, (((((HM.out.setg _ _).setg _ _).setg _ _).setg _ _)).drewN _⟩
          case measure => simp [intOf]
        · have b1 : decide (va < vb) = false := by simpa using t1
          by_cases t2 : va = vb
          · have b2 : (va == vb) = true := by simpa using t2
            by_cases t3 : om < dm
            · have b3 : decide (om < dm) = true := by simpa using t3
              have b4 : decide ((om : Int) < dm) = true := by simpa using t3
              have HBT : Hid (bet T om d.mn = om) := bet_yes (by rw [← OM.out, VA.out, VB.out, OM.out, DM.out]; exact .inr ⟨t2, t3⟩)
              clear t1 t2 t3
              go_wp2
              go_region
              go_wp2
              go_region
              go_wp2
              go_region
              go_wp2
              go_quiet (fail)
              go_wp2
              go_quiet (fail)
              go_wp2
              go_roundw
              case rel => exact ⟨2, by omega, rfl, fin_less HW.out hx HE.out HZ.out HO2.out S1.out S2.out DS.out OS.out OM.out HBT.out, (((((HM.out.setg _ _).setg _ _).setg _ _).setg _ _)).drewN _⟩
              case measure => simp [intOf]
            · have b3 : decide (om < dm) = false := by simpa using t3
              have b4 : decide ((om : Int) < dm) = false := by simpa using t3
              have HBT : Hid (bet T om d.mn = d.mn) := bet_no (by rw [← OM.out, VA.out, VB.out, OM.out, DM.out]; omega)
              clear t1 t2 t3
              go_wp2
              go_region
              go_wp2
              go_region
              go_wp2
              go_region
              go_wp2
              go_quiet (fail)
              go_wp2
              go_quiet (fail)
              go_wp2
              go_roundw
              case rel => exact ⟨2, by omega, rfl, fin_keep HW.out hx HE.out HZ.out HO2.out S1.out S2.out DS.out OS.out OM.out HBT.out, ((((HM.out.setg _ _).setg _ _).setg _ _)).drewN _⟩
              case measure => simp [intOf]
          · have b2 : (va == vb) = false := by simpa using t2
            have HBT : Hid (bet T om d.mn = d.mn) := bet_no (by rw [← OM.out, VA.out, VB.out, OM.out, DM.out]; omega)
            clear t1 t2
            go_wp2
            go_region
            go_wp2
            go_region
            go_wp2
            go_region
            go_wp2
            go_quiet (fail)
            go_wp2
            go_quiet (fail)
            go_wp2
            go_roundw
            case rel => exact ⟨2, by omega, rfl, fin_keep HW.out hx HE.out HZ.out HO2.out S1.out S2.out DS.out OS.out OM.out HBT.out, ((((HM.out.setg _ _).setg _ _).setg _ _)).drewN _⟩
            case measure => simp [intOf]
    · have HN : Hid (Tab wr g n (pull T x)) := HW.out
      go_wp2
      go_end0
      exact ⟨rfl, HN.out, HM.out⟩
end Go.Proofs.Ytblopfgnhokocaa
