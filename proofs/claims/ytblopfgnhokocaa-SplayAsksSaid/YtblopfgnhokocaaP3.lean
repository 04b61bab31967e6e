/- PLAIN: push; roads and places in a tree; what splay, Set, Split, Reverse and Join make of a tree's sequence. No program in sight. -/
import Derived.Test.YtblopfgnhokocaaP2
set_option linter.unusedVariables false
set_option linter.unusedSimpArgs false
namespace Go.Proofs.Ytblopfgnhokocaa.P

abbrev tn (T : Tb) : Nat → Bool := fun y => (T y).turn
/-- A table that holds a tree with the sequence l. -/
def TrL (T : Tb) (l : List Nat) (u : Tr) : Prop := Rep T u.root 0 u ∧ l.Nodup ∧ seq (tn T) false u = l

theorem TrL.nodes {T : Tb} {l : List Nat} {u : Tr} (h : TrL T l u) : l.Perm u.nodes := by
  have := seq_perm (tn T) u false; rwa [h.2.2] at this
theorem TrL.nodup {T : Tb} {l : List Nat} {u : Tr} (h : TrL T l u) : u.nodes.Nodup := h.nodes.nodup_iff.1 h.2.1
theorem TrL.ne {T : Tb} {l : List Nat} {u : Tr} (h : TrL T l u) {y : Nat} (hy : y ∈ l) : y ≠ 0 := h.1.ne y (h.nodes.mem_iff.1 hy)
/-- All nodes of a context are without a pending turn. -/
def Un (T : Tb) (c : List Fr) : Prop := ∀ f ∈ c, (T f.p).turn = false

def preC (τ : Nat → Bool) : List Fr → List Nat
  | [] => []
  | f :: c => if f.b then preC τ c ++ (seq τ false f.s ++ [f.p]) else preC τ c
def postC (τ : Nat → Bool) : List Fr → List Nat
  | [] => []
  | f :: c => if f.b then postC τ c else f.p :: seq τ false f.s ++ postC τ c
theorem seq_plug {T : Tb} {c : List Fr} : ∀ {t : Tr}, Un T c → seq (tn T) false (plug c t) = preC (tn T) c ++ seq (tn T) false t ++ postC (tn T) c := by
  induction c with
  | nil => intro t _; simp [plug, preC, postC]
  | cons f c ih =>
    intro t h
    have hf : (T f.p).turn = false := h f (by simp)
    show seq (tn T) false (plug c (mk f t)) = _
    rw [ih (fun g hg => h g (by simp [hg]))]
    unfold mk
    simp only [preC, postC]
    cases f.b <;> simp [seq, hf, List.append_assoc]

theorem plug_append (c d : List Fr) : ∀ t, plug (c ++ d) t = plug d (plug c t) := by
  induction c with
  | nil => intro t; rfl
  | cons f c ih => intro t; exact ih _
/-- Every node of a tree has its place. -/
theorem place {u : Tr} {x : Nat} (h : x ∈ u.nodes) : ∃ c l r, u = plug c (.node l x r) := by
  induction u with
  | nil => simp [Tr.nodes] at h
  | node l y r ihl ihr =>
    simp only [Tr.nodes, List.mem_append, List.mem_cons] at h
    rcases h with h | rfl | h
    · obtain ⟨c, a, b, rfl⟩ := ihl h
      exact ⟨c ++ [⟨false, y, r⟩], a, b, by rw [plug_append]; rfl⟩
    · exact ⟨[], l, r, rfl⟩
    · obtain ⟨c, a, b, rfl⟩ := ihr h
      exact ⟨c ++ [⟨true, y, l⟩], a, b, by rw [plug_append]; rfl⟩
theorem kid_of_up {T : Tb} {t : Tr} : ∀ {k p : Nat}, Rep T k p t → ∀ y ∈ t.nodes, y = t.root ∨ ((T y).up ∈ t.nodes ∧ ((T (T y).up).k0 = y ∨ (T (T y).up).k1 = y)) := by
  induction t with
  | nil => intro k p _ y hy; simp [Tr.nodes] at hy
  | node l x r ihl ihr =>
    intro k p h y hy
    obtain ⟨_, hx, _, _, hl, hr⟩ := h
    simp only [Tr.nodes, List.mem_append, List.mem_cons] at hy
    rcases hy with hy | rfl | hy
    · right
      rcases ihl hl y hy with e | ⟨h1, h2⟩
      · have hne : l.root ≠ 0 := by rw [← e]; exact hl.ne y hy
        have hu := hl.up_root hne
        rw [← e] at hu
        rw [hu]
        exact ⟨by simp [Tr.nodes], .inl (hl.link.trans e.symm)⟩
      · exact ⟨by simp [Tr.nodes, h1], h2⟩
    · exact .inl rfl
    · right
      rcases ihr hr y hy with e | ⟨h1, h2⟩
      · have hne : r.root ≠ 0 := by rw [← e]; exact hr.ne y hy
        have hu := hr.up_root hne
        rw [← e] at hu
        rw [hu]
        exact ⟨by simp [Tr.nodes], .inr (hr.link.trans e.symm)⟩
      · exact ⟨by simp [Tr.nodes, h1], h2⟩

/-! ### push -/
def tog (d : Nd) : Nd := { d with turn := !d.turn }
def swp (d : Nd) : Nd := { d with turn := false, k0 := d.k1, k1 := d.k0 }
def push (T : Tb) (x : Nat) : Tb := if (T x).turn = true then appz (appz (app T x swp) (T x).k1 tog) (T x).k0 tog else T
theorem push_at {α : Type} (q : Nd → α) (h1 : ∀ d, q (tog d) = q d) (h2 : ∀ d, q (swp d) = q d) (T : Tb) (x y : Nat) : q (push T x y) = q (T y) := by
  unfold push
  split
  · rw [appz_at q h1, appz_at q h1, app_at q h2]
  · rfl
theorem push_val (T : Tb) (x y : Nat) : (push T x y).val = (T y).val := push_at Nd.val (fun _ => rfl) (fun _ => rfl) T x y
theorem push_up (T : Tb) (x y : Nat) : (push T x y).up = (T y).up := push_at Nd.up (fun _ => rfl) (fun _ => rfl) T x y
theorem app_ne {T : Tb} {x y : Nat} {h : Nd → Nd} (e : y ≠ x) : app T x h y = T y := upd_ne e
theorem app_same (T : Tb) (x : Nat) (h : Nd → Nd) : app T x h x = h (T x) := upd_same _ _ _
theorem appz_ne {T : Tb} {x y : Nat} {h : Nd → Nd} (e : x ≠ 0 → y ≠ x) : appz T x h y = T y := by
  unfold appz; split
  · rfl
  · rename_i hx; exact app_ne (e hx)
theorem push_far {T : Tb} {x y : Nat} (h : y ≠ x) (h0 : (T x).k0 ≠ 0 → y ≠ (T x).k0) (h1 : (T x).k1 ≠ 0 → y ≠ (T x).k1) : push T x y = T y := by
  unfold push
  split
  · rw [appz_ne h0, appz_ne h1, app_ne h]
  · rfl
def pushT (T : Tb) (l : Tr) (x : Nat) (r : Tr) : Tr := if (T x).turn = true then .node r x l else .node l x r
theorem pushT_root (T : Tb) (l : Tr) (x : Nat) (r : Tr) : (pushT T l x r).root = x := by unfold pushT; split <;> rfl
theorem pushT_form (T : Tb) (l : Tr) (x : Nat) (r : Tr) : ∃ l' r', pushT T l x r = .node l' x r' := by unfold pushT; split <;> exact ⟨_, _, rfl⟩
theorem pushT_nodes (T : Tb) (l : Tr) (x : Nat) (r : Tr) : (pushT T l x r).nodes.Perm (Tr.node l x r).nodes := by
  unfold pushT; split
  · simp only [Tr.nodes]
    refine List.perm_append_comm.trans ?_
    simp only [List.cons_append]
    exact List.perm_middle.symm
  · exact List.Perm.refl _
/-- push at a place: the tree and its sequence stay; no turn is pending at the place. -/
theorem push_rep {T : Tb} {c : List Fr} {l r : Tr} {x : Nat} {L : List Nat} (h : TrL T L (plug c (.node l x r))) :
    TrL (push T x) L (plug c (pushT T l x r)) ∧ (push T x x).turn = false ∧ (∀ y ∈ cn c, push T x y = T y) ∧ ∀ y, y ∉ L → push T x y = T y := by
  have nd := (plug_nodes c (.node l x r)).nodup_iff.1 h.nodup
  have hL := h.nodes
  have h' := plug_rep.1 h.1
  obtain ⟨⟨_, hx0, hup, hfit, hl, hr⟩, hc⟩ := h'
  simp only [Tr.nodes, List.nodup_append, List.nodup_cons, List.mem_append, List.mem_cons] at nd
  obtain ⟨ndc, ⟨ndl, ⟨nxr, ndr⟩, dlr⟩, dc⟩ := nd
  have xl : x ∉ l.nodes := fun hm => dlr x hm x (.inl rfl) rfl
  have k0 : (T x).k0 = l.root := hl.link
  have k1 : (T x).k1 = r.root := hr.link
  have hxup : (T x).up = par c := hup
  have hcn : ∀ y ∈ cn c, push T x y = T y := fun y hy =>
    push_far (fun e => dc y hy x (.inr (.inl rfl)) e) (fun h0 e => dc y hy l.root (.inl (Tr.root_mem (k0 ▸ h0))) (e.trans k0)) (fun h0 e => dc y hy r.root (.inr (.inr (Tr.root_mem (k1 ▸ h0)))) (e.trans k1))
  have hfar : ∀ y, y ∉ L → push T x y = T y := by
    intro y hy
    have hy' : y ∉ cn c ++ (Tr.node l x r).nodes := fun hm => hy (hL.mem_iff.2 ((plug_nodes c _).mem_iff.2 hm))
    simp only [Tr.nodes, List.mem_append, List.mem_cons, not_or] at hy'
    obtain ⟨_, y1, y2, y3⟩ := hy'
    exact push_far y2 (fun h0 e => y1 (by rw [e, k0]; exact Tr.root_mem (k0 ▸ h0))) (fun h0 e => y3 (by rw [e, k1]; exact Tr.root_mem (k1 ▸ h0)))
  by_cases ht : (T x).turn = true
  · have lne : l.root ≠ 0 → l.root ∈ l.nodes := Tr.root_mem
    have rne : r.root ≠ 0 → r.root ∈ r.nodes := Tr.root_mem
    have e0 : push T x x = swp (T x) := by
      unfold push; rw [if_pos ht, appz_ne (fun h0 e => xl (by rw [k0] at e h0; rw [e]; exact lne h0)), appz_ne (fun h0 e => nxr (by rw [k1] at e h0; rw [e]; exact rne h0)), app_same]
    -- inside the children
    have inl : ∀ y ∈ l.nodes, y ≠ l.root → push T x y = T y := fun y hy hne => push_far (fun e => xl (e ▸ hy)) (fun _ e => hne (e.trans k0)) (fun h0 e => dlr y hy r.root (.inr (rne (k1 ▸ h0))) (e.trans k1))
    have inr : ∀ y ∈ r.nodes, y ≠ r.root → push T x y = T y := fun y hy hne => push_far (fun e => nxr (e ▸ hy)) (fun h0 e => dlr l.root (lne (k0 ▸ h0)) y (.inr hy) (e.trans k0).symm) (fun _ e => hne (e.trans k1))
    have rl : l.root ≠ 0 → push T x l.root = tog (T l.root) := by
      intro h0
      have hm := lne h0
      unfold push; rw [if_pos ht, k0, k1]
      have e1 : appz (app T x swp) r.root tog l.root = T l.root := by
        rw [appz_ne (fun h1 e => dlr _ hm _ (.inr (rne h1)) e), app_ne (fun e => xl (by rw [← e]; exact hm))]
      unfold appz at e1 ⊢
      rw [if_neg h0, app_same, e1]
    have rr : r.root ≠ 0 → push T x r.root = tog (T r.root) := by
      intro h0
      have hm := rne h0
      unfold push; rw [if_pos ht, k0, k1]
      rw [appz_ne (fun h1 e => dlr _ (lne h1) _ (.inr hm) e.symm)]
      unfold appz
      rw [if_neg h0, app_same, app_ne (fun e => nxr (by rw [← e]; exact hm))]
    have like_l : ∀ y ∈ l.nodes, Like (T y) (push T x y) ∧ (push T x y).up = (T y).up := by
      intro y hy
      by_cases e : y = l.root
      · subst e; rw [rl (hl.ne _ hy)]; exact ⟨⟨rfl, rfl, rfl, rfl, rfl⟩, rfl⟩
      · rw [inl y hy e]; exact ⟨Like.rfl, rfl⟩
    have like_r : ∀ y ∈ r.nodes, Like (T y) (push T x y) ∧ (push T x y).up = (T y).up := by
      intro y hy
      by_cases e : y = r.root
      · subst e; rw [rr (hr.ne _ hy)]; exact ⟨⟨rfl, rfl, rfl, rfl, rfl⟩, rfl⟩
      · rw [inr y hy e]; exact ⟨Like.rfl, rfl⟩
    have hv := push_val T x
    have pT : pushT T l x r = .node r x l := if_pos ht
    have pm : (Tr.node r x l).nodes.Perm (Tr.node l x r).nodes := pT ▸ pushT_nodes T l x r
    have hrep : Rep (push T x) x (par c) (.node r x l) := by
      refine ⟨rfl, hx0, by rw [push_up, hxup], ?_, ?_, ?_⟩
      · rw [e0]
        exact (hfit.perm pm.symm).congr rfl rfl rfl hv
      · rw [e0]
        exact hr.congr hv ndr like_r
      · rw [e0]
        exact hl.congr hv ndl like_l
    -- flipped children
    have sl : ∀ a, seq (tn (push T x)) a l = seq (tn T) (!a) l := by
      intro a
      cases l with
      | nil => simp [seq]
      | node l1 y l2 =>
        have ey : tn (push T x) y = !(tn T y) := by
          have := rl (hl.ne y (by simp [Tr.nodes]))
          show (push T x y).turn = _
          rw [show y = (Tr.node l1 y l2).root from rfl, this]; rfl
        have ndl' := ndl
        simp only [Tr.nodes, List.nodup_append, List.nodup_cons, List.mem_cons] at ndl'
        obtain ⟨_, ⟨ny2, _⟩, d12⟩ := ndl'
        have c1 : ∀ b, seq (tn (push T x)) b l1 = seq (tn T) b l1 := fun b => seq_congr l1 b (fun z hz => by
          show (push T x z).turn = (T z).turn
          rw [inl z (by simp [Tr.nodes, hz]) (fun e => d12 z hz y (.inl rfl) e)])
        have c2 : ∀ b, seq (tn (push T x)) b l2 = seq (tn T) b l2 := fun b => seq_congr l2 b (fun z hz => by
          show (push T x z).turn = (T z).turn
          rw [inl z (by simp [Tr.nodes, hz]) (fun e => ny2 (by rw [show y = (Tr.node l1 y l2).root from rfl, ← e]; exact hz))])
        unfold seq
        rw [ey, c1, c1, c2, c2]
        cases a <;> cases tn T y <;> rfl
    have sr : ∀ a, seq (tn (push T x)) a r = seq (tn T) (!a) r := by
      intro a
      cases r with
      | nil => simp [seq]
      | node l1 y l2 =>
        have ey : tn (push T x) y = !(tn T y) := by
          have := rr (hr.ne y (by simp [Tr.nodes]))
          show (push T x y).turn = _
          rw [show y = (Tr.node l1 y l2).root from rfl, this]; rfl
        have ndr' := ndr
        simp only [Tr.nodes, List.nodup_append, List.nodup_cons, List.mem_cons] at ndr'
        obtain ⟨_, ⟨ny2, _⟩, d12⟩ := ndr'
        have c1 : ∀ b, seq (tn (push T x)) b l1 = seq (tn T) b l1 := fun b => seq_congr l1 b (fun z hz => by
          show (push T x z).turn = (T z).turn
          rw [inr z (by simp [Tr.nodes, hz]) (fun e => d12 z hz y (.inl rfl) e)])
        have c2 : ∀ b, seq (tn (push T x)) b l2 = seq (tn T) b l2 := fun b => seq_congr l2 b (fun z hz => by
          show (push T x z).turn = (T z).turn
          rw [inr z (by simp [Tr.nodes, hz]) (fun e => ny2 (by rw [show y = (Tr.node l1 y l2).root from rfl, ← e]; exact hz))])
        unfold seq
        rw [ey, c1, c1, c2, c2]
        cases a <;> cases tn T y <;> rfl
    have sx : ∀ a, seq (tn (push T x)) a (.node r x l) = seq (tn T) a (.node l x r) := by
      intro a
      have e1 : tn (push T x) x = false := by show (push T x x).turn = false; rw [e0]; rfl
      have e2 : tn T x = true := ht
      have l1 := sl true; have l2 := sl false; have r1 := sr true; have r2 := sr false
      simp only [Bool.not_true, Bool.not_false] at l1 l2 r1 r2
      unfold seq
      rw [e1, e2]
      cases a <;> simp [l1, l2, r1, r2]
    have sc : ∀ (c' : List Fr) (t t' : Tr), (∀ y ∈ cn c', push T x y = T y) → (∀ a, seq (tn (push T x)) a t' = seq (tn T) a t) → ∀ a, seq (tn (push T x)) a (plug c' t') = seq (tn T) a (plug c' t) := by
      intro c'
      induction c' with
      | nil => intro t t' _ h a; exact h a
      | cons f c' ih =>
        intro t t' hm h a
        refine ih (mk f t) (mk f t') (fun y hy => hm y (by simp only [cn, List.flatMap_cons, List.mem_append] at hy ⊢; exact .inr hy)) (fun a => ?_) a
        have hs : ∀ b, seq (tn (push T x)) b f.s = seq (tn T) b f.s := fun b => seq_congr f.s b (fun z hz => by show (push T x z).turn = (T z).turn; rw [hm z (by simp [cn, hz])])
        have hp : tn (push T x) f.p = tn T f.p := by show (push T x f.p).turn = (T f.p).turn; rw [hm f.p (by simp [cn])]
        unfold mk
        cases f.b <;> simp [seq, h, hs, hp]
    refine ⟨⟨?_, h.2.1, ?_⟩, by rw [e0]; rfl, hcn, hfar⟩
    · rw [pT]
      refine plug_rep.2 ⟨hrep, ?_⟩
      exact (hc.congr hv ndc (fun y hy => by rw [hcn y hy]; exact ⟨Like.rfl, rfl⟩)).perm pm.symm
    · rw [pT, sc c _ _ hcn sx, h.2.2]
  · have e : push T x = T := if_neg ht
    rw [e]
    have pT : pushT T l x r = .node l x r := if_neg ht
    rw [pT]
    exact ⟨h, by simpa using ht, fun _ _ => rfl, fun _ _ => rfl⟩

/-- Down to the child that a node of the road is. -/
theorem descend {T : Tb} {c : List Fr} {l r : Tr} {y z : Nat} {L : List Nat} (h : TrL T L (plug c (.node l y r))) (hz : z ∈ L) (hu : (T z).up = y) (hy0 : y ≠ 0) :
    ∃ f t2, plug (f :: c) t2 = plug c (.node l y r) ∧ f.p = y ∧ t2.root = z := by
  have hz' := h.nodes.mem_iff.1 hz
  have hz0 := h.ne hz
  have hk : (T y).k0 = z ∨ (T y).k1 = z := by
    rcases kid_of_up h.1 z hz' with e | ⟨_, h2⟩
    · have := h.1.up_root (by rw [← e]; exact hz0)
      rw [← e, hu] at this
      exact absurd this hy0
    · rwa [hu] at h2
  obtain ⟨⟨_, _, _, _, hl, hr⟩, _⟩ := plug_rep.1 h.1
  rcases hk with e | e
  · exact ⟨⟨false, y, r⟩, l, rfl, rfl, by rw [← hl.link, e]⟩
  · exact ⟨⟨true, y, l⟩, r, rfl, rfl, by rw [← hr.link, e]⟩

/-! ### one round of splay -/
theorem par_up {T : Tb} {c : List Fr} {t : Tr} {L : List Nat} (h : TrL T L (plug c t)) (ht : t.root ≠ 0) : (T t.root).up = par c := (plug_rep.1 h.1).1.up_root ht
theorem in_L {T : Tb} {c : List Fr} {t : Tr} {L : List Nat} (h : TrL T L (plug c t)) {y : Nat} (hy : y ∈ cn c ∨ y ∈ t.nodes) : y ∈ L :=
  h.nodes.mem_iff.2 ((plug_nodes c t).mem_iff.2 (List.mem_append.2 hy))
theorem par_L {T : Tb} {f : Fr} {c : List Fr} {t : Tr} {L : List Nat} (h : TrL T L (plug (f :: c) t)) : f.p ∈ L := in_L h (.inl (by simp [cn]))
theorem rot_step {T : Tb} {c : List Fr} {f : Fr} {l r : Tr} {x : Nat} {L : List Nat} (h : TrL T L (plug (f :: c) (.node l x r))) (hx : (T x).turn = false) (hp : (T f.p).turn = false) :
    TrL (rot T x) L (plug c (rotT f l x r)) ∧ Kids (rotL T x) f.p L ∧ Kids (pull (rotL T x) f.p) x L ∧ ∀ y, y ∉ L → rot T x y = T y := by
  obtain ⟨h1, k1, k2, h2⟩ := rot_rep h.1 h.nodup
  have sub : ∀ {U : Tb} {z : Nat}, Kids U z (plug (f :: c) (.node l x r)).nodes → Kids U z L := by
    rintro U z ⟨A, B, a1, a2, a3, a4, a5, a6⟩
    exact ⟨A, B, a1, a2, a3, a4, fun y hy => ⟨h.nodes.mem_iff.2 (a5 y hy).1, (a5 y hy).2⟩, fun y hy => ⟨h.nodes.mem_iff.2 (a6 y hy).1, (a6 y hy).2⟩⟩
  refine ⟨⟨h1, h.2.1, ?_⟩, sub k1, sub k2, fun y hy => h2 y (fun hm => hy (h.nodes.mem_iff.2 hm))⟩
  rw [seq_congr (τ := tn (rot T x)) (τ' := tn T) _ _ (fun y _ => rot_turn T x y)]
  rw [plug_seq_congr c (rotT_seq (tn T) f l x r hx hp)]
  exact h.2.2
theorem Un.rot {T : Tb} {c : List Fr} {x : Nat} (h : Un T c) : Un (rot T x) c := fun f hf => by rw [rot_turn]; exact h f hf
/-- rotate at the parent, where both stand on one side. -/
theorem rot_par {T : Tb} {c : List Fr} {f f2 : Fr} {t : Tr} {L : List Nat} (h : TrL T L (plug (f :: f2 :: c) t)) (hb : f.b = f2.b) (hp : (T f.p).turn = false) (hg : (T f2.p).turn = false) :
    ∃ s', TrL (rot T f.p) L (plug (⟨f.b, f.p, s'⟩ :: c) t) ∧ Kids (rotL T f.p) f2.p L ∧ Kids (pull (rotL T f.p) f2.p) f.p L ∧ ∀ y, y ∉ L → rot T f.p y = T y := by
  obtain ⟨b, p, s⟩ := f
  obtain ⟨b2, g, s2⟩ := f2
  obtain rfl : b = b2 := hb
  cases b with
  | true =>
    have h' : TrL T L (plug (⟨true, g, s2⟩ :: c) (.node s p t)) := h
    obtain ⟨a1, a2⟩ := rot_step h' hp hg
    exact ⟨.node s2 g s, a1, a2⟩
  | false =>
    have h' : TrL T L (plug (⟨false, g, s2⟩ :: c) (.node t p s)) := h
    obtain ⟨a1, a2⟩ := rot_step h' hp hg
    exact ⟨.node s g s2, a1, a2⟩
/-- Which child: what the program's test says. -/
theorem side_is {T : Tb} {c : List Fr} {f : Fr} {t : Tr} {L : List Nat} (h : TrL T L (plug (f :: c) t)) (ht : t.root ≠ 0) : decide ((T f.p).k1 = t.root) = f.b := by
  have h' := plug_rep.1 h.1
  obtain ⟨hk, hp0, _, _, hs, _⟩ := h'.2
  cases hfb : f.b with
  | true =>
    have : (T f.p).k1 = t.root := by simpa [Nd.kid, hfb] using hk
    simpa using this
  | false =>
    have e : (T f.p).k1 = f.s.root := by simpa [Nd.kid, hfb] using hs.link
    rw [e]
    refine decide_eq_false (fun e => ?_)
    have hm := Tr.root_mem (t := f.s) (by rw [e]; exact ht)
    have nd := (plug_nodes (f :: c) t).nodup_iff.1 h.nodup
    simp only [List.nodup_append] at nd
    refine nd.2.2 f.s.root (by simp [cn, hm]) t.root (Tr.root_mem ht) e
end Go.Proofs.Ytblopfgnhokocaa.P
