/- PLAIN AND THE TABLE: bounds of a tree's nodes; the road up; what rotate and pull may count on. -/
import Derived.Test.YtblopfgnhokocaaD
namespace Go.Proofs.Ytblopfgnhokocaa
open Go.RowKit P
set_option linter.unusedVariables false
set_option linter.unusedSimpArgs false

theorem nodup_len : ∀ (n : Nat) (l : List Nat), l.Nodup → (∀ y ∈ l, 1 ≤ y ∧ y ≤ n) → l.length ≤ n := by
  intro n
  induction n with
  | zero =>
    intro l _ h
    cases l with
    | nil => simp
    | cons y l => have := h y (by simp); omega
  | succ n ih =>
    intro l nd h
    by_cases hm : n + 1 ∈ l
    · have h1 := ih (l.erase (n + 1)) (nd.erase _) (fun y hy => by
        have hy' := List.mem_of_mem_erase hy
        have := h y hy'
        have hne : y ≠ n + 1 := fun e => by rw [e] at hy; exact (nd.not_mem_erase) hy
        omega)
      rw [List.length_erase_of_mem hm] at h1
      omega
    · have := ih l nd (fun y hy => by have := h y hy; have : y ≠ n + 1 := fun e => hm (e ▸ hy); omega)
      omega
/-- All nodes of a tree are nodes of the table. -/
def Bd (n : Nat) (L : List Nat) : Prop := ∀ y ∈ L, y ≤ n
theorem link_le {T : Tb} {k p n : Nat} {t : Tr} (h : Rep T k p t) (hb : ∀ y ∈ t.nodes, y ≤ n) : k ≤ n := by
  rw [h.link]
  by_cases e : t.root = 0
  · omega
  · exact hb _ (Tr.root_mem e)
theorem below_ok {T : Tb} {k p n : Nat} {t : Tr} (h : Rep T k p t) (nd : t.nodes.Nodup) (hb : ∀ y ∈ t.nodes, y ≤ n) (hn : n ≤ 65536) (h0 : k ≠ 0) : (T k).mn ≤ n ∧ (T k).size ≤ 1000000 := by
  have hne := h.ne
  cases t with
  | nil => exact absurd h h0
  | node l x r =>
    obtain ⟨rfl, _, _, hf, _, _⟩ := h
    refine ⟨hb _ hf.2.2.1, ?_⟩
    have := nodup_len n _ nd (fun y hy => ⟨Nat.pos_of_ne_zero (hne y hy), hb y hy⟩)
    rw [hf.1]
    have e : (l.nodes ++ k :: r.nodes).length = (Tr.node l k r).nodes.length := rfl
    omega
theorem kids_ok {T : Tb} {n x : Nat} {L : List Nat} (h : P.Kids T x L) (hL : Bd n L) (hx : x ≠ 0) (hn : n ≤ 65536) : PullOK T n x := by
  obtain ⟨A, B, ha, hb, na, nb, ia, ib⟩ := h
  rintro k (rfl | rfl)
  · refine ⟨link_le ha (fun y hy => hL y (ia y hy).1), ?_, fun h0 => below_ok ha na (fun y hy => hL y (ia y hy).1) hn h0⟩
    rw [ha.link]
    by_cases e : A.root = 0
    · rw [e]; exact Ne.symm hx
    · exact (ia _ (Tr.root_mem e)).2
  · refine ⟨link_le hb (fun y hy => hL y (ib y hy).1), ?_, fun h0 => below_ok hb nb (fun y hy => hL y (ib y hy).1) hn h0⟩
    rw [hb.link]
    by_cases e : B.root = 0
    · rw [e]; exact Ne.symm hx
    · exact (ib _ (Tr.root_mem e)).2
theorem kid_le {T : Tb} {c : List Fr} {t : Tr} {L : List Nat} {n : Nat} (h : TrL T L (plug c t)) (hL : Bd n L) (ht : t.root ≠ 0) : (T t.root).k0 ≤ n ∧ (T t.root).k1 ≤ n := by
  have hin : ∀ y ∈ t.nodes, y ≤ n := fun y hy => hL y (in_L h (.inr hy))
  have h' := (plug_rep.1 h.1).1
  cases t with
  | nil => exact absurd rfl ht
  | node l x r =>
    obtain ⟨_, _, _, _, hl, hr⟩ := h'
    exact ⟨link_le hl (fun y hy => hin y (by simp [Tr.nodes, hy])), link_le hr (fun y hy => hin y (by simp [Tr.nodes, hy]))⟩
theorem par_le {T : Tb} {c : List Fr} {t : Tr} {L : List Nat} {n : Nat} (h : TrL T L (plug c t)) (hL : Bd n L) : par c ≤ n := by
  cases c with
  | nil => exact Nat.zero_le _
  | cons f c => exact hL _ (in_L h (.inl (by simp [cn, par])))
/-- The road from a place. -/
theorem road_plug {T : Tb} {L : List Nat} : ∀ (c : List Fr) (t : Tr), TrL T L (plug c t) → t.root ≠ 0 → Road T t.root (t.root :: c.map Fr.p) := by
  intro c
  induction c with
  | nil => intro t h ht; exact ⟨rfl, ht, par_up h ht⟩
  | cons f c ih =>
    intro t h ht
    have hu := par_up h ht
    have hp : f.p ≠ 0 := (plug_rep.1 h.1).2.2.1
    have h2 : TrL T L (plug c (mk f t)) := h
    have := ih (mk f t) h2 (by rw [mk_root]; exact hp)
    rw [mk_root] at this
    exact ⟨rfl, ht, by rw [hu]; exact this⟩
theorem rotOK_of {T : Tb} {c : List Fr} {f : Fr} {l r : Tr} {x n : Nat} {L : List Nat} (h : TrL T L (plug (f :: c) (.node l x r))) (hx : (T x).turn = false) (hp : (T f.p).turn = false) (hL : Bd n L) (hn : n ≤ 65536) (hv : ∀ y ∈ L, In64 (T y).val) :
    RotOK T n x f.p (par c) ((T x).kid (!f.b)) f.b := by
  obtain ⟨s1, s2, s3, s4⟩ := rot_step h hx hp
  have h' := plug_rep.1 h.1
  have hx0 : x ≠ 0 := h'.1.2.1
  have hxL : x ∈ L := in_L h (.inr (by simp [Tr.nodes]))
  have hpL : f.p ∈ L := par_L h
  have hp0 : f.p ≠ 0 := h'.2.2.1
  have hup : (T f.p).up = par c := h'.2.2.2.1
  have nd := (plug_nodes (f :: c) (.node l x r)).nodup_iff.1 h.nodup
  simp only [cn, List.flatMap_cons, Tr.nodes, List.cons_append, List.append_assoc, List.nodup_cons, List.nodup_append, List.mem_append, List.mem_cons, not_or] at nd
  obtain ⟨⟨np1, np2, np3, np4, np5⟩, nds, ⟨ndc, ⟨ndl, ⟨nxr, ndr⟩, dlr⟩, dc⟩, ds⟩ := nd
  have hgc : par c ≠ 0 → par c ∈ cn c := by
    intro hg; cases c with
    | nil => exact absurd rfl hg
    | cons f' c' => simp [par, cn]
  obtain ⟨k1, k2⟩ := kid_le h hL hx0
  have hll : (T x).k0 = l.root := h'.1.2.2.2.2.1.link
  have hrr : (T x).k1 = r.root := h'.1.2.2.2.2.2.link
  refine { hp := h'.1.2.2.1, hg := hup, hb := side_is h hx0, hi := rfl, xn := hL x hxL, pn := hL _ hpL, gn := par_le (t := mk f (.node l x r)) h hL, i_n := ?_, pull1 := kids_ok s2 hL hp0 hn, pull2 := kids_ok s3 hL hx0 hn, nxp := Ne.symm np4, npg := fun e => ?_, nxg := fun e => ?_, ni := fun hi0 => ?_, vx := hv x hxL, vp := hv _ hpL }
  · unfold Nd.kid; split
    · exact k2
    · exact k1
  · by_cases hg : par c = 0
    · exact hp0 (e.trans hg)
    · exact np2 (e ▸ hgc hg)
  · by_cases hg : par c = 0
    · exact hx0 (e.trans hg)
    · exact dc _ (hgc hg) x (.inr (.inl rfl)) e.symm
  · unfold Nd.kid at hi0 ⊢
    split
    · rename_i hb
      rw [if_pos hb, hrr] at hi0
      have hm := Tr.root_mem hi0
      rw [hrr]
      exact ⟨fun e => nxr (e ▸ hm), fun e => np5 (e ▸ hm)⟩
    · rename_i hb
      rw [if_neg hb, hll] at hi0
      have hm := Tr.root_mem hi0
      rw [hll]
      exact ⟨fun e => dlr _ hm x (.inl rfl) e, fun e => np3 (e ▸ hm)⟩
end Go.Proofs.Ytblopfgnhokocaa
