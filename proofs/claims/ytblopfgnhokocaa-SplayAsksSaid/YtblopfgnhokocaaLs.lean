/- THE CONTRACT of package splay's List. -/
import Derived.Test.YtblopfgnhokocaaCp
import Derived.Maps.AppendAt
namespace Go.Proofs.Ytblopfgnhokocaa
open Go.RowKit P
set_option linter.unusedVariables false
set_option linter.unusedSimpArgs false

/-! ### plain: the walk in order -/
def lefts (c : List Fr) : List Nat := (c.filter fun f => !f.b).map Fr.p
theorem postC_congr {τ τ' : Nat → Bool} : ∀ {c : List Fr}, (∀ z ∈ cn c, τ z = τ' z) → postC τ c = postC τ' c := by
  intro c
  induction c with
  | nil => intro _; rfl
  | cons f c ih =>
    intro h
    have h1 : ∀ z ∈ cn c, τ z = τ' z := fun z hz => h z (by simp only [cn, List.flatMap_cons, List.mem_append] at hz ⊢; exact .inr hz)
    have h2 : seq τ false f.s = seq τ' false f.s := seq_congr _ _ (fun z hz => h z (by simp [cn, hz]))
    simp only [postC]
    rw [ih h1, h2]
theorem postC_nil {τ : Nat → Bool} : ∀ {c : List Fr}, lefts c = [] → postC τ c = [] := by
  intro c
  induction c with
  | nil => intro _; rfl
  | cons f c ih =>
    intro h
    unfold lefts at h
    cases hb : f.b with
    | true =>
      rw [List.filter_cons_of_neg (by simp [hb])] at h
      simp only [postC, hb, if_true]
      exact ih h
    | false => rw [List.filter_cons_of_pos (by simp [hb])] at h; simp at h
theorem pop_left : ∀ {c : List Fr} {y : Nat} {st : List Nat}, lefts c = y :: st → ∃ rs f c2, c = rs ++ f :: c2 ∧ (∀ g ∈ rs, g.b = true) ∧ f.b = false ∧ f.p = y ∧ lefts c2 = st := by
  intro c
  induction c with
  | nil => intro y st h; simp [lefts] at h
  | cons f c ih =>
    intro y st h
    unfold lefts at h
    cases hb : f.b with
    | true =>
      rw [List.filter_cons_of_neg (by simp [hb])] at h
      obtain ⟨rs, f', c2, e, h1, h2⟩ := ih h
      refine ⟨f :: rs, f', c2, by rw [e]; rfl, fun g hg => ?_, h2⟩
      rcases List.mem_cons.1 hg with rfl | hg
      · exact hb
      · exact h1 g hg
    | false =>
      rw [List.filter_cons_of_pos (by simp [hb])] at h
      injection h with h1 h2
      exact ⟨[], f, c, rfl, by simp, hb, h1, h2⟩
theorem postC_rights {τ : Nat → Bool} : ∀ {rs d : List Fr}, (∀ g ∈ rs, g.b = true) → postC τ (rs ++ d) = postC τ d := by
  intro rs d
  induction rs with
  | nil => intro _; rfl
  | cons f rs ih =>
    intro h
    have : f.b = true := h f (by simp)
    simp only [List.cons_append, postC, this, if_true]
    exact ih (fun g hg => h g (by simp [hg]))
/-- A place in the walk: what has been left behind is out (1 more each), st is to come back to. -/
structure LS (T : Tb) (l : List Nat) (c : List Fr) (t : Tr) (out st : List Nat) (k : Nat) : Prop where
  tr : TrL T (up1 l) (plug c t)
  un : Un T c
  pre : preC (tn T) c = up1 out
  left : lefts c = st
  rest : (postC (tn T) c).length + t.nodes.length = k
theorem LS.all {T : Tb} {l : List Nat} {c : List Fr} {out : List Nat} {k : Nat} (h : LS T l c .nil out [] k) : out = l := by
  have e := seq_plug (T := T) (t := .nil) h.un
  rw [h.tr.2.2, postC_nil h.left, h.pre] at e
  simp only [seq, List.append_nil] at e
  unfold up1 at e
  exact (List.map_inj_right (fun a b h => by simpa using h)).1 e.symm
theorem LS.len {T : Tb} {l : List Nat} {c : List Fr} {t : Tr} {out st : List Nat} {k : Nat} (h : LS T l c t out st k) : out.length ≤ l.length ∧ st.length + t.nodes.length ≤ l.length ∧ out.length + k = l.length := by
  have e := seq_plug (T := T) (t := t) h.un
  rw [h.tr.2.2, h.pre] at e
  have e1 := congrArg List.length e
  simp only [up1, List.length_map, List.length_append, seq_len] at e1
  have e2 := h.tr.nodes.length_eq
  have e3 := (plug_nodes c t).length_eq
  have e4 := (cn_sub c).length_le
  have e5 : st.length ≤ (c.map Fr.p).length := by rw [← h.left]; unfold lefts; simp only [List.length_map]; exact List.length_filter_le _ _
  simp only [up1, List.length_map, List.length_append] at e2 e3
  have := h.rest
  omega
theorem LS.push {T : Tb} {l : List Nat} {c : List Fr} {a b : Tr} {y : Nat} {out st : List Nat} {k : Nat} (h : LS T l c (.node a y b) out st k) : ∃ a' b', LS (P.push T y) l c (.node a' y b') out st k ∧ (P.push T y y).turn = false := by
  obtain ⟨q1, q2, q3, q4⟩ := push_rep h.tr
  obtain ⟨l', r', e⟩ := pushT_form T a y b
  have hlen := (pushT_nodes T a y b).length_eq
  rw [e] at q1 hlen
  have ht : ∀ z ∈ cn c, tn (P.push T y) z = tn T z := fun z hz => by show (P.push T y z).turn = _; rw [q3 z hz]
  refine ⟨l', r', ⟨q1, fun f hf => ?_, ?_, h.left, ?_⟩, q2⟩
  · rw [q3 f.p (List.mem_flatMap.2 ⟨f, hf, by simp⟩)]; exact h.un f hf
  · rw [preC_congr ht]; exact h.pre
  · rw [postC_congr ht, hlen]; exact h.rest
theorem LS.down {T : Tb} {l : List Nat} {c : List Fr} {a b : Tr} {y : Nat} {out st : List Nat} {k : Nat} (h : LS T l c (.node a y b) out st k) (ht : (T y).turn = false) : LS T l (⟨false, y, b⟩ :: c) a out (y :: st) k := by
  refine ⟨h.tr, fun f hf => ?_, h.pre, ?_, ?_⟩
  · rcases List.mem_cons.1 hf with rfl | hf
    · exact ht
    · exact h.un f hf
  · have := h.left
    unfold lefts at this ⊢
    rw [List.filter_cons_of_pos (by rfl), List.map_cons, this]
  · have := h.rest
    simp only [postC, Bool.false_eq_true, if_false, List.cons_append, List.length_cons, List.length_append, seq_len, Tr.nodes] at this ⊢
    omega
theorem LS.pop {T : Tb} {l : List Nat} {c : List Fr} {y : Nat} {out st : List Nat} {k : Nat} (h : LS T l c .nil out (y :: st) k) : ∃ c' t' k', LS T l c' t' (out ++ [y - 1]) st k' ∧ k' < k ∧ (T y).k1 = t'.root ∧ y ≠ 0 ∧ y ∈ up1 l := by
  obtain ⟨rs, f, c2, e, h1, h2, h3, h4⟩ := pop_left h.left
  have ht := h.tr
  have hu := h.un
  rw [e] at ht hu
  have e1 : plug (rs ++ f :: c2) .nil = plug c2 (.node (plug rs .nil) y f.s) := by
    rw [plug_append]; show plug c2 (P.mk f (plug rs .nil)) = _
    unfold P.mk; rw [h2, h3]; rfl
  rw [e1] at ht
  have hy : y ∈ up1 l := in_L ht (.inr (by simp [Tr.nodes]))
  have hy0 := ht.ne hy
  have hun : Un T (⟨true, y, plug rs .nil⟩ :: c2) := by
    intro g hg
    rcases List.mem_cons.1 hg with rfl | hg
    · rw [← h3]; exact hu f (by simp)
    · exact hu g (by simp [hg])
  have hp : postC (tn T) c = y :: seq (tn T) false f.s ++ postC (tn T) c2 := by
    rw [e, postC_rights h1]
    simp only [postC, h2, Bool.false_eq_true, if_false, h3]
  have s1 := seq_plug (T := T) (t := .nil) h.un
  have s2 := seq_plug (T := T) (c := ⟨true, y, plug rs .nil⟩ :: c2) (t := f.s) hun
  have s3 : seq (tn T) false (plug c .nil) = up1 l := h.tr.2.2
  have s4 : seq (tn T) false (plug (⟨true, y, plug rs .nil⟩ :: c2) f.s) = up1 l := ht.2.2
  rw [s3, h.pre, hp] at s1
  rw [s4] at s2
  have key : preC (tn T) (⟨true, y, plug rs .nil⟩ :: c2) = up1 out ++ [y] := by
    rw [s1] at s2
    simp only [seq, List.append_nil, postC, if_true] at s2
    have : (up1 out ++ [y]) ++ (seq (tn T) false f.s ++ postC (tn T) c2) = preC (tn T) (⟨true, y, plug rs .nil⟩ :: c2) ++ (seq (tn T) false f.s ++ postC (tn T) c2) := by simpa using s2
    exact (List.append_cancel_right this).symm
  refine ⟨⟨true, y, plug rs .nil⟩ :: c2, f.s, (postC (tn T) c2).length + f.s.nodes.length, ⟨ht, hun, ?_, ?_, ?_⟩, ?_, ?_, hy0, hy⟩
  · rw [key]; simp only [up1, List.map_append, List.map_cons, List.map_nil]; rw [show y - 1 + 1 = y by omega]
  · rw [← h4]; unfold lefts; rw [List.filter_cons_of_neg (by simp)]
  · simp only [postC, if_true]
  · have := h.rest
    rw [hp] at this
    simp only [List.cons_append, List.length_cons, List.length_append, seq_len, Tr.nodes, List.length_nil] at this
    omega
  · obtain ⟨⟨_, _, _, _, _, hr⟩, _⟩ := plug_rep.1 ht.1
    exact hr.link

/-! ### rows in memory -/
theorem own_mod {W w1 : World} {B e size k lo hi : Nat} {v : Value} {xs : List Value} (h : W.ownsRow B e size v k xs) (m : Mod lo hi W w1) (hB : hi ≤ B) : w1.ownsRow B e size v k xs := by
  refine ⟨h.1, ?_⟩
  rcases h.2 with h0 | ⟨g, cap, cur, h1, h2, h3, h4⟩
  · exact .inl h0
  · exact .inr ⟨g, cap, cur, h1, h2, (m.block g (Array.getElem?_eq_some_iff.1 h3).1 (by omega)).trans h3, h4⟩
theorem own_take {W : World} {B e k g cap : Nat} {xs : List Value} (h : W.ownsRow B e 1 (.slice (some ⟨g, 0, none⟩) (k + 1) cap) (k + 1) xs) : W.ownsRow B e 1 (.slice (some ⟨g, 0, none⟩) k cap) k (xs.take k) := by
  obtain ⟨h0, h⟩ := h
  refine ⟨by simp; omega, ?_⟩
  rcases h with ⟨e, _⟩ | ⟨g', cap', cur, e, h2, h3, h4, h5, h6, h7⟩
  · cases e
  · injection e with e1 e2 e3
    injection e1 with e1; injection e1 with e1
    subst e1 e3
    refine .inr ⟨_, _, cur, rfl, h2, h3, by omega, h5, h6, ?_⟩
    rw [← h7, List.take_take]
    congr 1
    omega
/-- Behind an append: what lay below stays, a row of another kind stays. -/
theorem own_step {W w1 : World} {B e e2 size size2 k k2 : Nat} {v v2 : Value} {xs xs2 : List Value} {tmp : Obj} (h : W.ownsRow B e size v k xs) (hB : B ≤ W.heap.size) (hg : (W.alloc tmp).grownBy w1 v.ownBlock) (h2 : W.ownsRow B e2 size2 v2 k2 xs2) (hne : e2 ≠ e) :
    Below B W w1 ∧ w1.ownsRow B e2 size2 v2 k2 xs2 := by
  have hrb : ∀ j, v.ownBlock = some j → B ≤ j ∧ ∃ cur, (W.alloc tmp).heap[j]? = some (.cells cur e (0, 0)) := by
    intro j ej
    rcases (h.alloc tmp).2 with ⟨rfl, _⟩ | ⟨g, cap, cur, rfl, hb, hc, _⟩
    · simp [Value.ownBlock] at ej
    · obtain rfl : g = j := by simpa [Value.ownBlock] using ej
      exact ⟨hb, cur, hc⟩
  refine ⟨((Below.refl B W).alloc hB tmp).grown hg (by simp; omega) (fun j ej => (hrb j ej).1), ?_⟩
  refine (h2.alloc tmp).kept hg ?_
  rcases (h2.alloc tmp).2 with ⟨rfl, _⟩ | ⟨g, cap, cur, rfl, hb, hc, _⟩
  · exact .inl rfl
  · refine .inr (fun ej => ?_)
    obtain ⟨_, cur', hc'⟩ := hrb g (by simpa [Value.ownBlock] using ej.symm)
    rw [hc] at hc'
    injection hc' with hc'
    injection hc' with _ e'
    exact hne e'
theorem Mod.below2 {lo hi : Nat} {a b c : World} (h : Mod lo hi a b) (k : Below a.heap.size b c) : Mod lo hi a c :=
  ⟨k.os.trans h.os, k.tape.trans h.tape, k.output.trans h.output, Nat.le_trans h.size k.size, fun i hi ho => (k.block i hi).trans (h.block i hi ho)⟩
theorem Mod.of_below' {B hi : Nat} {a b : World} (h : Below B a b) (hh : a.heap.size ≤ hi) : Mod B hi a b :=
  ⟨h.os, h.tape, h.output, h.size, fun i hi ho => h.block i (by omega)⟩
theorem RTab.lt' {w : World} {g n : Nat} {T : Tb} (h : Tab w g n T) : g < w.heap.size := World.block_lt_of_cell? w _ (h.1 0 0 (Nat.zero_le _) (by omega))
theorem own_form {W : World} {B e size k : Nat} {v : Value} {xs : List Value} (h : W.ownsRow B e size v k xs) : ∃ a c, v = .slice a k c := by
  rcases h.2 with ⟨rfl, rfl⟩ | ⟨g, cap, cur, rfl, _⟩
  · exact ⟨_, _, rfl⟩
  · exact ⟨_, _, rfl⟩
theorem info3 : (Try.prog.info? 3).map (fun i => (i.zero, i.size, i.bytes)) = some (some (.int .i64 0), 1, 8) := by kernel_rfl
def nums (l : List Nat) : List Int := l.map fun (x : Nat) => (x : Int)
def outs (l : List Nat) : List Value := l.map fun (x : Nat) => Value.int .i64 x
def stk (l : List Nat) : List Value := l.reverse.map fun (x : Nat) => Value.int .i32 x
theorem outs_snoc (l : List Nat) (x : Nat) : outs (l ++ [x]) = outs l ++ [.int .i64 (x : Nat)] := by simp [outs]
theorem stk_cons (l : List Nat) (x : Nat) : stk (x :: l) = stk l ++ [.int .i32 (x : Nat)] := by simp [stk]
/-- A list that a call hands back. -/
def GivesL (w : World) (lo hi : Nat) (v : Value) (o : SSt) (l : List Nat) (e : Ending) (w' : World) : Prop :=
  ∃ b a m c, e = .returned (.slice a m c) ∧ Ints w' b a m c (nums l) ∧ (0 < m → w.heap.size ≤ b) ∧ PSo w' lo hi v o ∧ Mod lo hi w w'
theorem nums_ints {w : World} {base : Nat} {v : Value} {l : List Nat} (h : w.ownsRow base 3 1 v l.length (outs l)) (hb : ∀ x ∈ l, x ≤ 65536) : ∃ b a m c, v = .slice a m c ∧ Ints w b a m c (nums l) ∧ (0 < m → base ≤ b) := by
  have h' : w.ownsRow base 3 1 v l.length ((nums l).map (Value.int .i64)) := by unfold nums; rw [List.map_map]; exact h
  obtain ⟨b, a, c, e, hi, hg⟩ := Ints.of_own h' (by
    intro x hx
    obtain ⟨y, hy, rfl⟩ := List.mem_map.1 hx
    have := hb y hy
    exact ⟨by omega, by omega⟩)
  exact ⟨b, a, l.length, c, e, hi, fun hm => (hg hm).1⟩

set_option maxRecDepth 100000 in
set_option maxHeartbeats 4000000 in
theorem list_ok {w : World} {lo hi p : Nat} {L : List (List Nat)} {V : List Int} (h : PT w lo hi p L V) (x : Int) (h0 : 0 ≤ x) (hxV : x < V.length) : Calls Try.prog 14 #[.pointer (some ⟨p, 0, none⟩), .int .i64 x] w (GivesL w lo hi (.pointer (some ⟨p, 0, none⟩)) (some (L, V)) (lst L x.toNat)) := by
  obtain ⟨g, n, cap, T, l1, l2, hcap, hI⟩ := h
  obtain ⟨i0, hi0, hz0, hz1, hz2⟩ := info_parts info3
  obtain ⟨i1, hi1, hy0, hy1, hy2⟩ := info_parts info21
  have hxn : x < n := by rw [← hI.len]; exact hxV
  have hn := hI.hn
  have gB : g < w.heap.size := RTab.lt' hI.tab
  have pB : p < w.heap.size := World.block_lt_of_cell? w _ hI.hob.1
  obtain ⟨y0, hy0'⟩ : ∃ y, y = x.toNat + 1 := ⟨_, rfl⟩
  have hyn0 : y0 ≤ n := by omega
  have HC := Lib.hid (check_ok hI.hob hI.hn x y0 (by omega) h0 hxn)
  have HS := Lib.hid (splayF hI x.toNat (by omega) y0 hy0')
  have HX := Lib.hid (show x.toNat < n by omega)
  have HY := Lib.hid hy0'
  have LL := Lib.hid (And.intro l1 (And.intro l2 hcap))
  have npg := hI.ne
  have npg' : ¬ g = p := fun e => npg e.symm
  have hlen := hI.fok.part.len_le (hI.fok.part.lst (show x.toNat < n by omega)).1
  have HLL : Hid (∀ z ∈ lst L x.toNat, z < n) := fun z hz => hI.fok.part.lt (hI.fok.part.lst (show x.toNat < n by omega)).1 hz
  obtain ⟨l, hl⟩ : ∃ l, lst L x.toNat = l := ⟨_, rfl⟩
  have HLE := Lib.hid hl
  rw [hl] at hlen HLL
  clear hI hxV hxn hy0' l1 l2 hcap hl
  go_enter Try.func14, Try.ntmps14
  go_wp2_with fail
  refine HC.out.mono ?_
  rintro e w' ⟨rfl, rfl⟩
  go_wp2_with fail
  refine HS.out.mono ?_
  rintro e w2 ⟨rfl, T2, i2, m2, r2, f2⟩
  obtain ⟨⟨ta, tb, tr⟩, tt⟩ := r2
  have st0 : LS T2 l [] (.node ta (x.toNat + 1) tb) [] [] l.length := by
    rw [HLE.out] at tr
    refine ⟨tr, fun f hf => by simp at hf, rfl, rfl, ?_⟩
    have := tr.nodes.length_eq
    simp only [up1, List.length_map] at this
    simp [postC, this]
  have I2 := Lib.hid i2
  have M2 := Lib.hid m2
  have S2 := Lib.hid st0
  have hbase : w.heap.size ≤ w2.heap.size := m2.size
  clear i2 m2 f2 HS st0 tr tt
  go_wp2_with fail
  go_loopg [5, 7, 8] l.length (fun gk n_ out_ open_ wr => ∃ (c : List Fr) (t : Tr) (out st : List Nat) (T3 : Tb) (y : Nat) (oa sa : Option Addr) (oc sc : Nat), n_ = .int .i32 y ∧ out_ = .slice oa out.length oc ∧ open_ = .slice sa st.length sc ∧ Hid (t.root = y) ∧ Hid (In wr p g n cap T3 L V) ∧ Hid (Mod g (g + 1) w wr) ∧ Hid (LS T3 l c t out st gk) ∧ Hid (wr.ownsRow w.heap.size 3 1 (.slice oa out.length oc) out.length (outs out)) ∧ Hid (wr.ownsRow w.heap.size 21 1 (.slice sa st.length sc) st.length (stk st)))
  case atStart => exact ⟨[], .node ta (x.toNat + 1) tb, [], [], T2, y0, none, none, 0, 0, rfl, rfl, rfl, HY.out.symm, I2, M2, S2, World.ownsRow_nil _ _ _ _, World.ownsRow_nil _ _ _ _⟩
  case round =>
    obtain ⟨c, t, out, st, T3, y, oa, sa, oc, sc, rfl, rfl, rfl, hty, HI, HM, HS, HO, HT⟩ := hrel
    clear I2 M2 S2
    have hln := HS.out.len
    obtain ⟨so, hso⟩ : ∃ s, out.length = s := ⟨_, rfl⟩
    obtain ⟨ss, hss⟩ : ∃ s, st.length = s := ⟨_, rfl⟩
    rw [hso, hss] at hln ⊢
    rw [hso] at HO
    rw [hss] at HT
    have HSO := Lib.hid hso
    have HSS := Lib.hid hss
    by_cases hfin : y = 0 ∧ ss = 0
    · obtain ⟨rfl, rfl⟩ := hfin
      have hnil : t = .nil := by
        cases t with
        | nil => rfl
        | node a z b =>
          have := HS.out.tr.ne (in_L HS.out.tr (y := z) (.inr (by simp [Tr.nodes])))
          exact absurd hty.out this
      have hst : st = [] := List.length_eq_zero_iff.1 hss
      subst hnil hst
      have hall := HS.out.all
      have FIN : Hid (GivesL w lo hi (.pointer (some ⟨p, 0, none⟩)) (some (L, V)) (lst L x.toNat) (.returned (.slice oa so oc)) wr) := by
        have h1 := HO.out
        rw [← hso, hall] at h1
        obtain ⟨b, a, m, c', e, q1, q2⟩ := nums_ints h1 (fun z hz => by have := HLL.out z hz; omega)
        refine ⟨b, a, m, c', ?_, ?_, q2, ⟨p, rfl, g, n, cap, T3, LL.out.1, LL.out.2.1, LL.out.2.2, HI.out⟩, HM.out.mono LL.out.2.1.1 (by have := LL.out.2.1.2; omega)⟩
        · rw [← e, ← hso, hall]
        · rw [HLE.out]; exact q1
      clear hall hln hso hss HSS HSO HO HT HS HI HM hty
      go_wp2
      go_ret
      exact FIN.out
    · have main : ∀ (K : Prop), K → True := fun _ _ => trivial
      clear main
      have hgo : (y ≠ 0) ∨ (y = 0 ∧ 0 < ss) := by omega
      have NE : Hid (t.root ≠ 0 ∨ st ≠ []) := by
        rcases hgo with h | h
        · exact .inl (by rw [hty.out]; exact h)
        · exact .inr (fun e => by rw [e] at hss; simp at hss; omega)
      have sl : ss ≤ 65536 := by omega
      have ol : so ≤ 65536 := by omega
      clear hfin hso hss
      rcases hgo with hy | ⟨hy, hs0⟩
      case' inl => have hb1 : ((y : Int) != 0) = true := by simp; omega
      case' inr =>
        have hb1 : ((y : Int) != 0) = false := by simp [hy]
        clear hy
      all_goals
        go_wp2_with fail
        obtain ⟨wo, rfl⟩ : ∃ wo : World, wo = wr := ⟨_, rfl⟩
        obtain ⟨ko, rfl⟩ : ∃ k, k = gk := ⟨_, rfl⟩
        go_loopg [5, 8] t.nodes.length (fun gk n_ open_ wr => ∃ (c : List Fr) (t : Tr) (st : List Nat) (T3 : Tb) (y : Nat) (sa : Option Addr) (sc ss : Nat), n_ = .int .i32 y ∧ open_ = .slice sa ss sc ∧ Hid (t.nodes.length = gk) ∧ Hid (st.length = ss) ∧ Hid (t.root = y) ∧ Hid (t.root ≠ 0 ∨ st ≠ []) ∧ Hid (In wr p g n cap T3 L V) ∧ Hid (Mod g (g + 1) w wr) ∧ Hid (LS T3 l c t out st ko) ∧ Hid (wr.ownsRow w.heap.size 3 1 (.slice oa so oc) so (outs out)) ∧ Hid (wr.ownsRow w.heap.size 21 1 (.slice sa ss sc) ss (stk st)))
        case atStart => exact ⟨c, t, st, T3, y, sa, sc, ss, rfl, rfl, rfl, HSS, hty, NE, HI, HM, HS, HO, HT⟩
        case round =>
          obtain ⟨c1, t1, st1, T4, y1, sa1, sc1, ss1, rfl, rfl, hgk, HSS1, hty1, NE1, HI1, HM1, HS1, HO1, HT1⟩ := hrel
          clear HSS hty NE HI HM HS HO HT
          have hln1 := HS1.out.len
          have sl1 : ss1 ≤ 65536 := by have := HSS1.out; omega
          by_cases hz1 : y1 = 0
          · have hb2 : ((y1 : Int) != 0) = false := by simp [hz1]
            have hnil : t1 = .nil := by
              cases t1 with
              | nil => rfl
              | node a z b =>
                have := HS1.out.tr.ne (in_L HS1.out.tr (y := z) (.inr (by simp [Tr.nodes])))
                have h2 := hty1.out
                exact absurd (h2.trans hz1) this
            subst hnil
            obtain ⟨s, st2, hst⟩ : ∃ s st2, st1 = s :: st2 := by
              rcases NE1.out with h | h
              · exact absurd rfl h
              · cases st1 with
                | nil => exact absurd rfl h
                | cons s st2 => exact ⟨s, st2, rfl⟩
            subst hst
            obtain ⟨k1, hk1⟩ : ∃ k, ss1 = k + 1 := ⟨st2.length, by have := HSS1.out; simp at this; omega⟩
            subst hk1
            have hk2 : st2.length = k1 := by have := HSS1.out; simp at this; omega
            obtain ⟨c', t', k', ls2, hlt, hroot, hs0, hsl⟩ := HS1.out.pop
            have own1 := HT1.out
            obtain ⟨gs, cs1, hform⟩ := ownsRow_succ own1
            injection hform with hf1 hf2 hf3
            subst hf1 hf3
            have hcell : wr.cell? ⟨gs, k1, none⟩ = some (.int .i32 s) := by
              rw [own1.cellAt k1 (by omega), stk_cons, List.getElem?_append_right (by simp [stk, hk2])]
              simp [stk, hk2]
            have own2 := own_take own1
            rw [show (stk (s :: st2)).take k1 = stk st2 by rw [stk_cons, List.take_left' (by simp [stk, hk2])]] at own2
            have O2 := Lib.hid own2
            have LS2 := Lib.hid ls2
            have HR2 := Lib.hid hroot
            have HLT := Lib.hid hlt
            have HK2 := Lib.hid hk2
            have hcap1 : k1 + 1 ≤ sc1 := by
              rcases own1.2 with ⟨e, _⟩ | ⟨g', cap', cur, e, _, _, h4, _⟩
              · cases e
              · injection e with _ _ e3; omega
            have sn : s ≤ n := Rt.bd HI1.out HX.out s (by rw [HLE.out]; exact hsl)
            have s1 : 1 ≤ s := Nat.pos_of_ne_zero hs0
            obtain ⟨r, hr⟩ : ∃ r, t'.root = r := ⟨_, rfl⟩
            rw [hr] at hroot
            have hrk : wr.cell? ⟨g, s * 9 + 1, none⟩ = some (.int .i32 r) := RTab.ck1 HI1.out.tab sn hroot
            have co := HI1.out.hob.2
            have hsz1 : w.heap.size ≤ wr.heap.size := HM1.out.size
            have HR3 := Lib.hid hr
            clear own1 own2 ls2 hroot hlt hk2 hs0 hsl hr hln1 HS1 HT1 NE1 HSS1 hgk hty1 hz1
            go_wp2_with (at_builtin; refine wpList_append_own _ rfl _ _ 25 rfl w.heap.size 3 i0 (.int .i64 0) 1 8 Try.underlying25 hi0 hz0 hz1 hz2 rfl (by decide) _ _ _ rfl (HO1.out.alloc _) ⟨wr.heap.size, 0, none⟩ 1 1 [.int .i64 ((s : Int) - 1)] rfl rfl (cell_one_new _ _ _) (by simp [Value.oneCell']) (by unfold maxLen; omega) (by omega) (by simp; omega) ?_; intro v' w1 hown' hgrow _; have stp := own_step HO1.out hsz1 hgrow O2.out (by decide); have c9 := (stp.1.cell (p := ⟨p, 1, none⟩) pB).trans co; have c10 := (stp.1.cell (p := ⟨g, s * 9 + 1, none⟩) gB).trans hrk; have OW := Lib.hid hown'; have SP := Lib.hid stp; clear hown' hgrow stp)
            obtain ⟨oa2, oc2, rfl⟩ := own_form OW.out
            have em : ((s - 1 : Nat) : Int) = (s : Int) - 1 := by omega
            have FO : Hid (w1.ownsRow w.heap.size 3 1 (.slice oa2 (out ++ [s - 1]).length oc2) (out ++ [s - 1]).length (outs (out ++ [s - 1]))) := by
              have h1 := OW.out
              have h2 : (out ++ [s - 1]).length = so + 1 := by rw [List.length_append, HSO.out]; rfl
              show World.ownsRow _ _ _ _ _ _ _
              rw [h2, outs_snoc, em]
              exact h1
            have FL : Hid ((out ++ [s - 1]).length = so + 1) := by show _ = _; rw [List.length_append, HSO.out]; rfl
            have FI : Hid (In w1 p g n cap T4 L V) := HI1.out.mod (Mod.of_below' SP.out.1 (Nat.le_refl _)) (.inl pB) (.inl gB)
            have FM : Hid (Mod g (g + 1) w w1) := HM1.out.below2 SP.out.1
            go_roundg k'
            case measure => exact HLT.out
            case rel => exact ⟨c', t', out ++ [s - 1], st2, T4, r, oa2, _, oc2, sc1, rfl, by rw [FL.out], by rw [HK2.out], HR3, FI, FM, LS2.out, FO, by rw [HK2.out]; exact SP.out.2⟩
          · have hb2 : ((y1 : Int) != 0) = true := by simp; omega
            cases t1 with
            | nil => exact absurd hty1.out.symm hz1
            | node a z b =>
              obtain rfl : z = y1 := hty1.out
              have hzn : z ≤ n := Rt.bd HI1.out HX.out z (by rw [HLE.out]; exact in_L HS1.out.tr (.inr (by simp [Tr.nodes])))
              have tr' : TrL T4 (up1 (lst L x.toNat)) (plug c1 (.node a z b)) := by rw [HLE.out]; exact HS1.out.tr
              have hkd := kid_le tr' (Rt.bd HI1.out HX.out) (t := .node a z b) hz1
              have PC := Lib.hid (push_any HI1.out.hob HI1.out.tab npg z hzn hn hkd)
              obtain ⟨a', b', ls2, tt2⟩ := HS1.out.push
              have LS2 := Lib.hid (ls2.down tt2)
              have GK : Hid (a'.nodes.length < gk) := by
                have h1 := hgk.out
                have h2 := ls2.rest
                have h3 := HS1.out.len
                have h4 := ls2.len
                have h5 := HS1.out.rest
                have e1 : (postC (tn T4) c1).length = (postC (tn (P.push T4 z)) c1).length := by
                  have := (push_rep HS1.out.tr).2.2.1
                  rw [postC_congr (fun q hq => by show (T4 q).turn = (P.push T4 z q).turn; rw [this q hq])]
                simp only [Tr.nodes, List.length_append, List.length_cons] at h1 h2 h5
                show _ < _
                omega
              have hrep := (plug_rep.1 ls2.tr.1).1
              have hl0 : (P.push T4 z z).k0 = a'.root := hrep.2.2.2.2.1.link
              obtain ⟨r, hr⟩ : ∃ r, a'.root = r := ⟨_, rfl⟩
              rw [hr] at hl0
              have HK0 := Lib.hid hl0
              have HR := Lib.hid hr
              have TR' := Lib.hid tr'
              have hsz1 : w.heap.size ≤ wr.heap.size := HM1.out.size
              clear tr' hkd ls2 tt2 hrep hl0 hr hln1 hgk NE1 HS1 hty1
              go_wp2_with fail
              refine PC.out.mono ?_
              rintro e w4 ⟨rfl, t4, m4⟩
              have I4 := Lib.hid (In.pushed HI1.out HX.out TR'.out m4 t4)
              have M4 : Hid (Mod g (g + 1) w w4) := HM1.out.trans m4
              have O4 := Lib.hid (own_mod HO1.out m4 gB)
              have S4 := Lib.hid (own_mod HT1.out m4 gB)
              have hsz4 : w.heap.size ≤ w4.heap.size := M4.out.size
              have co := I4.out.hob.2
              have ck := RTab.ck0 I4.out.tab hzn HK0.out
              clear t4 m4 HI1 HM1 HO1 HT1 PC
              go_wp2_with (at_builtin; refine wpList_append_own _ rfl _ _ 72 rfl w.heap.size 21 i1 (.int .i32 0) 1 4 Try.underlying72 hi1 hy0 hy1 hy2 rfl (by decide) _ _ _ rfl (S4.out.alloc _) ⟨w4.heap.size, 0, none⟩ 1 1 [.int .i32 (z : Nat)] rfl rfl (cell_one_new _ _ _) (by simp [Value.oneCell']) (by unfold maxLen; omega) (by omega) (by simp; omega) ?_; intro v' w5 hown' hgrow _; have stp := own_step S4.out hsz4 hgrow O4.out (by decide); have c9 := (stp.1.cell (p := ⟨p, 1, none⟩) pB).trans co; have c10 := (stp.1.cell (p := ⟨g, z * 9, none⟩) gB).trans ck; have OW := Lib.hid hown'; have SP := Lib.hid stp; clear hown' hgrow stp)
              obtain ⟨sa2, sc2, rfl⟩ := own_form OW.out
              have FS : Hid (w5.ownsRow w.heap.size 21 1 (.slice sa2 (ss1 + 1) sc2) (ss1 + 1) (stk (z :: st1))) := by
                have h1 := OW.out
                show World.ownsRow _ _ _ _ _ _ _
                rw [stk_cons]; exact h1
              have FL : Hid ((z :: st1).length = ss1 + 1) := by show _ = _; rw [List.length_cons, HSS1.out]
              have FI : Hid (In w5 p g n cap (P.push T4 z) L V) := I4.out.mod (Mod.of_below' SP.out.1 (Nat.le_refl _)) (.inl pB) (.inl gB)
              have FM : Hid (Mod g (g + 1) w w5) := M4.out.below2 SP.out.1
              have FN : Hid (a'.root ≠ 0 ∨ z :: st1 ≠ []) := .inr (by simp)
              go_roundg a'.nodes.length
              case measure => exact GK.out
              case rel => exact ⟨_, a', z :: st1, _, r, sa2, sc2, ss1 + 1, rfl, rfl, rfl, FL, HR, FN, FI, FM, LS2.out, SP.out.2, FS⟩
end Go.Proofs.Ytblopfgnhokocaa
