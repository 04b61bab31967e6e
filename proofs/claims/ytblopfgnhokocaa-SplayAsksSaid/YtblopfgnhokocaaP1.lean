/- PLAIN: splay trees in a table of nodes: trees, their sequences with pending reversals, what pull and push and rotate make of a table. No program in sight. -/
set_option linter.unusedVariables false
set_option linter.unusedSimpArgs false
namespace Go.Proofs.Ytblopfgnhokocaa.P

structure Nd where
  k0 : Nat
  k1 : Nat
  up : Nat
  size : Nat
  mn : Nat
  turn : Bool
  val : Int
  sum : Int

abbrev Tb := Nat → Nd
def upd (T : Tb) (x : Nat) (d : Nd) : Tb := fun y => if y = x then d else T y
@[simp] theorem upd_same (T : Tb) (x : Nat) (d : Nd) : upd T x d x = d := by simp [upd]
theorem upd_ne {T : Tb} {x y : Nat} {d : Nd} (h : y ≠ x) : upd T x d y = T y := by simp [upd, h]

def Nd.kid (d : Nd) (b : Bool) : Nat := if b then d.k1 else d.k0
def Nd.setKid (d : Nd) (b : Bool) (v : Nat) : Nd := if b then { d with k1 := v } else { d with k0 := v }

inductive Tr where
  | nil : Tr
  | node : Tr → Nat → Tr → Tr

def Tr.root : Tr → Nat
  | .nil => 0
  | .node _ x _ => x
def Tr.nodes : Tr → List Nat
  | .nil => []
  | .node l x r => l.nodes ++ x :: r.nodes

def seq (τ : Nat → Bool) : Bool → Tr → List Nat
  | _, .nil => []
  | f, .node l x r => if (f != τ x) = true then seq τ true r ++ x :: seq τ true l else seq τ false l ++ x :: seq τ false r

theorem seq_flip (τ : Nat → Bool) (t : Tr) : ∀ f, seq τ (!f) t = (seq τ f t).reverse := by
  induction t with
  | nil => intro f; simp [seq]
  | node l x r ihl ihr =>
    intro f
    have a := ihl true
    have b := ihr true
    have a' := ihl false
    have b' := ihr false
    simp only [Bool.not_true, Bool.not_false] at a b a' b'
    unfold seq
    cases f <;> cases τ x <;> simp [a, b] <;> simp [a', b']
theorem seq_perm (τ : Nat → Bool) (t : Tr) : ∀ f, (seq τ f t).Perm t.nodes := by
  induction t with
  | nil => intro f; simp [seq, Tr.nodes]
  | node l x r ihl ihr =>
    intro f
    unfold seq Tr.nodes
    split
    · refine ((ihr true).append ((ihl true).cons x)).trans ?_
      refine List.perm_append_comm.trans ?_
      simp only [List.cons_append]
      exact List.perm_middle.symm
    · exact (ihl false).append ((ihr false).cons x)
theorem seq_congr {τ τ' : Nat → Bool} (t : Tr) : ∀ f, (∀ y ∈ t.nodes, τ y = τ' y) → seq τ f t = seq τ' f t := by
  induction t with
  | nil => intro f _; simp [seq]
  | node l x r ihl ihr =>
    intro f h
    have h1 : ∀ y ∈ l.nodes, τ y = τ' y := fun y hy => h y (by simp [Tr.nodes, hy])
    have h2 : ∀ y ∈ r.nodes, τ y = τ' y := fun y hy => h y (by simp [Tr.nodes, hy])
    have h3 : τ x = τ' x := h x (by simp [Tr.nodes])
    unfold seq
    rw [h3, ihl true h1, ihl false h1, ihr true h2, ihr false h2]

/-! ### what a node knows of what is below it -/
def tsum (T : Tb) (ns : List Nat) : Int := (ns.map fun y => (T y).val).sum
def IsMin (T : Tb) (m : Nat) (ns : List Nat) : Prop := m ∈ ns ∧ ∀ y ∈ ns, (T m).val < (T y).val ∨ ((T m).val = (T y).val ∧ m ≤ y)
def Fit (T : Tb) (d : Nd) (ns : List Nat) : Prop := d.size = ns.length ∧ d.sum = tsum T ns ∧ IsMin T d.mn ns

theorem int_sum_perm {a b : List Int} (h : a.Perm b) : a.sum = b.sum := by
  induction h with
  | nil => rfl
  | cons x _ ih => simp [ih]
  | swap x y l => simp; omega
  | trans _ _ h1 h2 => exact h1.trans h2
theorem tsum_perm {T : Tb} {a b : List Nat} (h : a.Perm b) : tsum T a = tsum T b := int_sum_perm (h.map _)
theorem tsum_append (T : Tb) (a b : List Nat) : tsum T (a ++ b) = tsum T a + tsum T b := by simp [tsum]
theorem tsum_cons (T : Tb) (x : Nat) (b : List Nat) : tsum T (x :: b) = (T x).val + tsum T b := by simp [tsum]
theorem Fit.perm {T : Tb} {d : Nd} {a b : List Nat} (h : Fit T d a) (p : a.Perm b) : Fit T d b :=
  ⟨h.1.trans p.length_eq, h.2.1.trans (tsum_perm p), p.mem_iff.1 h.2.2.1, fun y hy => h.2.2.2 y (p.mem_iff.2 hy)⟩
theorem Fit.congr' {T T' : Tb} {d d' : Nd} {a : List Nat} (h : Fit T d a) (h1 : d'.size = d.size) (h2 : d'.sum = d.sum) (h3 : d'.mn = d.mn) (hv : ∀ y ∈ a, (T' y).val = (T y).val) : Fit T' d' a := by
  refine ⟨h1.trans h.1, ?_, ?_, ?_⟩
  · rw [h2, h.2.1]; unfold tsum
    congr 1
    exact List.map_congr_left (fun y hy => (hv y hy).symm)
  · rw [h3]; exact h.2.2.1
  · intro y hy; rw [h3, hv _ h.2.2.1, hv y hy]; exact h.2.2.2 y hy
theorem Fit.congr {T T' : Tb} {d d' : Nd} {a : List Nat} (h : Fit T d a) (h1 : d'.size = d.size) (h2 : d'.sum = d.sum) (h3 : d'.mn = d.mn) (hv : ∀ y, (T' y).val = (T y).val) : Fit T' d' a :=
  h.congr' h1 h2 h3 (fun y _ => hv y)

/-! ### a tree in the table: its link k, its parent p -/
def Rep (T : Tb) : Nat → Nat → Tr → Prop
  | k, _, .nil => k = 0
  | k, p, .node l x r => k = x ∧ x ≠ 0 ∧ (T x).up = p ∧ Fit T (T x) (l.nodes ++ x :: r.nodes) ∧ Rep T (T x).k0 x l ∧ Rep T (T x).k1 x r

theorem Rep.link {T : Tb} {k p : Nat} {t : Tr} (h : Rep T k p t) : k = t.root := by
  cases t with
  | nil => exact h
  | node l x r => exact h.1
theorem Rep.ne {T : Tb} {t : Tr} : ∀ {k p : Nat}, Rep T k p t → ∀ y ∈ t.nodes, y ≠ 0 := by
  induction t with
  | nil => intro k p _ y hy; simp [Tr.nodes] at hy
  | node l x r ihl ihr =>
    intro k p h y hy
    obtain ⟨_, h1, _, _, h4, h5⟩ := h
    simp only [Tr.nodes, List.mem_append, List.mem_cons] at hy
    rcases hy with hy | rfl | hy
    · exact ihl h4 y hy
    · exact h1
    · exact ihr h5 y hy
/-- Two tables that look alike to a tree: pending turns aside. -/
def Like (d d' : Nd) : Prop := d'.k0 = d.k0 ∧ d'.k1 = d.k1 ∧ d'.size = d.size ∧ d'.mn = d.mn ∧ d'.sum = d.sum
theorem Rep.like' {T T' : Tb} {t : Tr} : ∀ {k p p' : Nat}, Rep T k p t → t.nodes.Nodup → (∀ y ∈ t.nodes, (T' y).val = (T y).val) → (∀ y ∈ t.nodes, Like (T y) (T' y)) → (∀ y ∈ t.nodes, y ≠ t.root → (T' y).up = (T y).up) → (t.root ≠ 0 → (T' t.root).up = p') → Rep T' k p' t := by
  induction t with
  | nil => intro k p p' h _ _ _ _ _; exact h
  | node l x r ihl ihr =>
    intro k p p' h nd hv h1 h2 h3
    obtain ⟨rfl, hx, _, hf, hl, hr⟩ := h
    have lx := h1 k (by simp [Tr.nodes])
    simp only [Tr.nodes] at nd
    have hll := hl.link
    have hrl := hr.link
    rw [List.nodup_append] at nd
    obtain ⟨ndl, ndr, ndd⟩ := nd
    rw [List.nodup_cons] at ndr
    have hxl : k ∉ l.nodes := fun h => ndd k h k (by simp) rfl
    have root_mem : ∀ t : Tr, t.root ≠ 0 → t.root ∈ t.nodes := by
      intro t ht; cases t with
      | nil => exact absurd rfl ht
      | node _ _ _ => simp [Tr.root, Tr.nodes]
    have up_root : ∀ {q z : Nat} {t : Tr}, Rep T q z t → t.root ≠ 0 → (T t.root).up = z := by
      intro q z t hh ht; cases t with
      | nil => exact absurd rfl ht
      | node _ _ _ => exact hh.2.2.1
    refine ⟨rfl, hx, h3 hx, hf.congr' lx.2.2.1 lx.2.2.2.2 lx.2.2.2.1 hv, ?_, ?_⟩
    · rw [lx.1]
      refine ihl hl ndl (fun y hy => hv y (by simp [Tr.nodes, hy])) (fun y hy => h1 y (by simp [Tr.nodes, hy])) (fun y hy hne => h2 y (by simp [Tr.nodes, hy]) (fun e => hxl ((show y = k from e) ▸ hy))) (fun hne => ?_)
      have hm := root_mem l hne
      rw [h2 l.root (by simp [Tr.nodes, hm]) (fun e => hxl ((show l.root = k from e) ▸ hm)), up_root hl hne]
    · rw [lx.2.1]
      refine ihr hr ndr.2 (fun y hy => hv y (by simp [Tr.nodes, hy])) (fun y hy => h1 y (by simp [Tr.nodes, hy])) (fun y hy hne => h2 y (by simp [Tr.nodes, hy]) (fun e => ndr.1 ((show y = k from e) ▸ hy))) (fun hne => ?_)
      have hm := root_mem r hne
      rw [h2 r.root (by simp [Tr.nodes, hm]) (fun e => ndr.1 ((show r.root = k from e) ▸ hm)), up_root hr hne]
theorem Rep.like {T T' : Tb} {t : Tr} (hv : ∀ y, (T' y).val = (T y).val) {k p p' : Nat} (h : Rep T k p t) (nd : t.nodes.Nodup) (h1 : ∀ y ∈ t.nodes, Like (T y) (T' y)) (h2 : ∀ y ∈ t.nodes, y ≠ t.root → (T' y).up = (T y).up) (h3 : t.root ≠ 0 → (T' t.root).up = p') : Rep T' k p' t :=
  h.like' nd (fun y _ => hv y) h1 h2 h3
theorem Tr.root_mem {t : Tr} (ht : t.root ≠ 0) : t.root ∈ t.nodes := by
  cases t with
  | nil => exact absurd rfl ht
  | node _ _ _ => simp [Tr.root, Tr.nodes]
theorem Rep.up_root {T : Tb} {q z : Nat} {t : Tr} (hh : Rep T q z t) (ht : t.root ≠ 0) : (T t.root).up = z := by
  cases t with
  | nil => exact absurd rfl ht
  | node _ _ _ => exact hh.2.2.1
theorem Rep.congr {T T' : Tb} {k p : Nat} {t : Tr} (hv : ∀ y, (T' y).val = (T y).val) (h : Rep T k p t) (nd : t.nodes.Nodup) (hT : ∀ y ∈ t.nodes, Like (T y) (T' y) ∧ (T' y).up = (T y).up) : Rep T' k p t :=
  h.like hv nd (fun y hy => (hT y hy).1) (fun y hy _ => (hT y hy).2) (fun hne => by rw [(hT _ (Tr.root_mem hne)).2, h.up_root hne])
theorem Rep.congr' {T T' : Tb} {k p : Nat} {t : Tr} (h : Rep T k p t) (nd : t.nodes.Nodup) (hT : ∀ y ∈ t.nodes, T' y = T y) : Rep T' k p t :=
  h.like' nd (fun y hy => by rw [hT y hy]) (fun y hy => by rw [hT y hy]; exact ⟨rfl, rfl, rfl, rfl, rfl⟩) (fun y hy _ => by rw [hT y hy]) (fun hne => by rw [hT _ (Tr.root_mem hne), h.up_root hne])
theorem Like.rfl {d : Nd} : Like d d := ⟨Eq.refl _, Eq.refl _, Eq.refl _, Eq.refl _, Eq.refl _⟩

/-! ### pull -/
def bet (T : Tb) (a b : Nat) : Nat := if (T a).val < (T b).val ∨ ((T a).val = (T b).val ∧ a < b) then a else b
def addN (T : Tb) (d : Nd) (k : Nat) : Nd := if k = 0 then d else { d with size := d.size + (T k).size, sum := d.sum + (T k).sum, mn := bet T (T k).mn d.mn }
def pull0 (T : Tb) (x : Nat) : Nd := { T x with size := 1, mn := x, sum := (T x).val }
def pullN (T : Tb) (x : Nat) : Nd := addN T (addN T (pull0 T x) (T x).k0) (T x).k1

theorem addN_fit {T : Tb} {d : Nd} {ns : List Nat} {k p : Nat} {t : Tr} (h : Fit T d ns) (hr : Rep T k p t) : Fit T (addN T d k) (ns ++ t.nodes) := by
  cases t with
  | nil =>
    obtain rfl : k = 0 := hr
    simpa [addN, Tr.nodes] using h
  | node l x r =>
    obtain ⟨rfl, hx, _, hf, _, _⟩ := hr
    unfold addN
    rw [if_neg hx]
    obtain ⟨a1, a2, a3, a4⟩ := h
    obtain ⟨b1, b2, b3, b4⟩ := hf
    refine ⟨?_, ?_, ?_⟩
    · show d.size + _ = _
      rw [a1, b1]; simp [Tr.nodes]
    · show d.sum + _ = _
      rw [a2, b2, ← tsum_append]; rfl
    · show IsMin T (bet T (T k).mn d.mn) _
      unfold bet
      split
      · rename_i hc
        refine ⟨List.mem_append_right _ b3, fun y hy => ?_⟩
        rcases List.mem_append.1 hy with hy | hy
        · have := a4 y hy; omega
        · exact b4 y hy
      · rename_i hc
        refine ⟨List.mem_append_left _ a3, fun y hy => ?_⟩
        rcases List.mem_append.1 hy with hy | hy
        · exact a4 y hy
        · have := b4 y hy; omega
theorem pull_fit {T : Tb} {x p q : Nat} {l r : Tr} (hl : Rep T (T x).k0 p l) (hr : Rep T (T x).k1 q r) : Fit T (pullN T x) (l.nodes ++ x :: r.nodes) := by
  have h0 : Fit T (pull0 T x) [x] := ⟨rfl, by simp [tsum, pull0], by simp [IsMin, pull0]⟩
  have h1 := addN_fit (addN_fit h0 hl) hr
  refine h1.perm ?_
  simp only [List.cons_append, List.nil_append]
  exact List.perm_middle.symm
theorem addN_k0 (T : Tb) (d : Nd) (k : Nat) : (addN T d k).k0 = d.k0 ∧ (addN T d k).k1 = d.k1 ∧ (addN T d k).up = d.up ∧ (addN T d k).turn = d.turn ∧ (addN T d k).val = d.val := by
  unfold addN; split <;> exact ⟨rfl, rfl, rfl, rfl, rfl⟩
theorem pullN_k (T : Tb) (x : Nat) : (pullN T x).k0 = (T x).k0 ∧ (pullN T x).k1 = (T x).k1 ∧ (pullN T x).up = (T x).up ∧ (pullN T x).turn = (T x).turn ∧ (pullN T x).val = (T x).val := by
  unfold pullN
  have a := addN_k0 T (addN T (pull0 T x) (T x).k0) (T x).k1
  have b := addN_k0 T (pull0 T x) (T x).k0
  exact ⟨a.1.trans b.1, a.2.1.trans b.2.1, a.2.2.1.trans b.2.2.1, a.2.2.2.1.trans b.2.2.2.1, a.2.2.2.2.trans b.2.2.2.2⟩
def pull (T : Tb) (x : Nat) : Tb := upd T x (pullN T x)
theorem pull_val (T : Tb) (x y : Nat) : (pull T x y).val = (T y).val := by
  unfold pull upd; split
  · rename_i h; subst h; exact (pullN_k T y).2.2.2.2
  · rfl
theorem pull_turn (T : Tb) (x y : Nat) : (pull T x y).turn = (T y).turn := by
  unfold pull upd; split
  · rename_i h; subst h; exact (pullN_k T y).2.2.2.1
  · rfl
/-- A node whose children are right is right behind pull. -/
theorem pull_rep {T : Tb} {x p : Nat} {l r : Tr} (hx : x ≠ 0) (hup : (T x).up = p) (nd : (l.nodes ++ x :: r.nodes).Nodup) (hl : Rep T (T x).k0 x l) (hr : Rep T (T x).k1 x r) : Rep (pull T x) x p (.node l x r) := by
  have e : pull T x x = pullN T x := by simp [pull]
  have k := pullN_k T x
  rw [List.nodup_append] at nd
  obtain ⟨ndl, ndr, ndd⟩ := nd
  rw [List.nodup_cons] at ndr
  have hxl : x ∉ l.nodes := fun h => ndd x h x (by simp) rfl
  refine ⟨rfl, hx, by rw [e, k.2.2.1, hup], ?_, ?_, ?_⟩
  · rw [e]
    exact (pull_fit hl hr).congr rfl rfl rfl (pull_val T x)
  · rw [e, k.1]
    exact hl.congr (pull_val T x) ndl (fun y hy => by rw [show pull T x y = T y from upd_ne (fun e => hxl (e ▸ hy))]; exact ⟨Like.rfl, rfl⟩)
  · rw [e, k.2.1]
    exact hr.congr (pull_val T x) ndr.2 (fun y hy => by rw [show pull T x y = T y from upd_ne (fun e => ndr.1 (e ▸ hy))]; exact ⟨Like.rfl, rfl⟩)

/-! ### contexts: a tree with a hole, from the hole up -/
structure Fr where
  b : Bool
  p : Nat
  s : Tr
def mk (f : Fr) (t : Tr) : Tr := if f.b then .node f.s f.p t else .node t f.p f.s
def plug : List Fr → Tr → Tr
  | [], t => t
  | f :: c, t => plug c (mk f t)
def par : List Fr → Nat
  | [] => 0
  | f :: _ => f.p
def cn (c : List Fr) : List Nat := c.flatMap fun f => f.p :: f.s.nodes
theorem mk_root (f : Fr) (t : Tr) : (mk f t).root = f.p := by unfold mk; split <;> rfl
theorem mk_nodes (f : Fr) (t : Tr) : (mk f t).nodes.Perm (f.p :: f.s.nodes ++ t.nodes) := by
  unfold mk
  split
  · exact List.perm_middle
  · refine List.perm_middle.trans ?_
    exact List.Perm.cons _ List.perm_append_comm
theorem plug_nodes (c : List Fr) : ∀ t, (plug c t).nodes.Perm (cn c ++ t.nodes) := by
  induction c with
  | nil => intro t; simp [plug, cn]
  | cons f c ih =>
    intro t
    refine (ih (mk f t)).trans ?_
    refine ((mk_nodes f t).append_left (cn c)).trans ?_
    simp only [cn, List.flatMap_cons]
    rw [← List.append_assoc]
    exact List.perm_append_comm.append_right _
def RepC (T : Tb) : Nat → List Nat → List Fr → Prop
  | _, _, [] => True
  | k, ns, f :: c => (T f.p).kid f.b = k ∧ f.p ≠ 0 ∧ (T f.p).up = par c ∧ Fit T (T f.p) (f.p :: f.s.nodes ++ ns) ∧ Rep T ((T f.p).kid (!f.b)) f.p f.s ∧ RepC T f.p (f.p :: f.s.nodes ++ ns) c
theorem RepC.perm {T : Tb} {c : List Fr} : ∀ {k : Nat} {a b : List Nat}, RepC T k a c → a.Perm b → RepC T k b c := by
  induction c with
  | nil => intro k a b _ _; trivial
  | cons f c ih =>
    intro k a b h p
    exact ⟨h.1, h.2.1, h.2.2.1, h.2.2.2.1.perm (p.append_left _), h.2.2.2.2.1, ih h.2.2.2.2.2 (p.append_left _)⟩
theorem rep_mk {T : Tb} {f : Fr} {t : Tr} {q : Nat} : Rep T (mk f t).root q (mk f t) ↔ (T f.p).kid f.b = t.root ∧ f.p ≠ 0 ∧ (T f.p).up = q ∧ Fit T (T f.p) (f.p :: f.s.nodes ++ t.nodes) ∧ Rep T ((T f.p).kid (!f.b)) f.p f.s ∧ Rep T t.root f.p t := by
  obtain ⟨b, p, s⟩ := f
  cases b
  · constructor
    · rintro ⟨_, h1, h2, h3, h4, h5⟩
      have hk := h4.link
      exact ⟨hk, h1, h2, h3.perm (mk_nodes ⟨false, p, s⟩ t), h5, hk ▸ h4⟩
    · rintro ⟨h0, h1, h2, h3, h4, h5⟩
      refine ⟨rfl, h1, h2, h3.perm (mk_nodes ⟨false, p, s⟩ t).symm, ?_, h4⟩
      have h0' : (T p).k0 = t.root := h0
      rw [h0']; exact h5
  · constructor
    · rintro ⟨_, h1, h2, h3, h4, h5⟩
      have hk := h5.link
      exact ⟨hk, h1, h2, h3.perm (mk_nodes ⟨true, p, s⟩ t), h4, hk ▸ h5⟩
    · rintro ⟨h0, h1, h2, h3, h4, h5⟩
      refine ⟨rfl, h1, h2, h3.perm (mk_nodes ⟨true, p, s⟩ t).symm, h4, ?_⟩
      have h0' : (T p).k1 = t.root := h0
      rw [h0']; exact h5
theorem plug_rep {T : Tb} {c : List Fr} : ∀ {t : Tr}, Rep T (plug c t).root 0 (plug c t) ↔ Rep T t.root (par c) t ∧ RepC T t.root t.nodes c := by
  induction c with
  | nil => intro t; exact ⟨fun h => ⟨h, trivial⟩, fun h => h.1⟩
  | cons f c ih =>
    intro t
    show Rep T (plug c (mk f t)).root 0 (plug c (mk f t)) ↔ _
    rw [ih, rep_mk, mk_root]
    constructor
    · rintro ⟨⟨h1, h2, h3, h4, h5, h6⟩, h7⟩
      exact ⟨h6, h1, h2, h3, h4, h5, h7.perm (mk_nodes f t)⟩
    · rintro ⟨h6, h1, h2, h3, h4, h5, h7⟩
      exact ⟨⟨h1, h2, h3, h4, h5, h6⟩, h7.perm (mk_nodes f t).symm⟩
theorem RepC.congr {T T' : Tb} (hv : ∀ y, (T' y).val = (T y).val) {c : List Fr} : ∀ {k : Nat} {ns : List Nat}, RepC T k ns c → (cn c).Nodup → (∀ y ∈ cn c, Like (T y) (T' y) ∧ (T' y).up = (T y).up) → RepC T' k ns c := by
  induction c with
  | nil => intro k ns _ _ _; trivial
  | cons f c ih =>
    intro k ns h nd hT
    obtain ⟨h1, h2, h3, h4, h5, h6⟩ := h
    simp only [cn, List.flatMap_cons, List.cons_append, List.nodup_cons, List.nodup_append] at nd
    have hp := hT f.p (by simp [cn])
    have hk : ∀ b, (T' f.p).kid b = (T f.p).kid b := by
      intro b; unfold Nd.kid; rw [hp.1.1, hp.1.2.1]
    refine ⟨by rw [hk]; exact h1, h2, by rw [hp.2]; exact h3, h4.congr hp.1.2.2.1 hp.1.2.2.2.2 hp.1.2.2.2.1 hv, ?_, ih h6 nd.2.2.1 (fun y hy => hT y (by simp only [cn, List.flatMap_cons] at hy ⊢; simp only [List.mem_append, List.mem_cons]; exact .inr hy))⟩
    rw [hk]
    exact h5.congr hv nd.2.1 (fun y hy => hT y (by simp [cn, hy]))
/-- The first frame's link has turned. -/
theorem RepC.kid {T T' : Tb} (hv : ∀ y, (T' y).val = (T y).val) {c : List Fr} {k k' : Nat} {ns : List Nat} (h : RepC T k ns c) (nd : (cn c).Nodup) (hT : ∀ y ∈ cn c, y ≠ par c → Like (T y) (T' y) ∧ (T' y).up = (T y).up)
    (h1 : ∀ f c', c = f :: c' → T' f.p = (T f.p).setKid f.b k') : RepC T' k' ns c := by
  cases c with
  | nil => trivial
  | cons f c =>
    obtain ⟨h0, h2, h3, h4, h5, h6⟩ := h
    have e := h1 f c rfl
    simp only [cn, List.flatMap_cons, List.cons_append, List.nodup_cons, List.nodup_append, List.mem_append, not_or] at nd
    have e1 : ((T f.p).setKid f.b k').kid f.b = k' := by cases hb : f.b <;> simp [Nd.setKid, Nd.kid]
    have e2 : ((T f.p).setKid f.b k').kid (!f.b) = (T f.p).kid (!f.b) := by cases hb : f.b <;> simp [Nd.setKid, Nd.kid]
    have e3 : ((T f.p).setKid f.b k').up = (T f.p).up ∧ ((T f.p).setKid f.b k').size = (T f.p).size ∧ ((T f.p).setKid f.b k').sum = (T f.p).sum ∧ ((T f.p).setKid f.b k').mn = (T f.p).mn := by
      unfold Nd.setKid; split <;> exact ⟨rfl, rfl, rfl, rfl⟩
    refine ⟨by rw [e, e1], h2, by rw [e, e3.1, h3], ?_, ?_, ?_⟩
    · rw [e]; exact h4.congr e3.2.1 e3.2.2.1 e3.2.2.2 hv
    · rw [e, e2]
      exact h5.congr hv nd.2.1 (fun y hy => hT y (by simp [cn, hy]) (fun e => nd.1.1 ((show y = f.p from e) ▸ hy)))
    · exact h6.congr hv nd.2.2.1 (fun y hy => hT y (by simp only [cn, List.flatMap_cons, List.mem_append, List.mem_cons] at hy ⊢; exact .inr hy) (fun e => nd.1.2 ((show y = f.p from e) ▸ hy)))
end Go.Proofs.Ytblopfgnhokocaa.P
