/- PLAIN: rotate, push and the road from a node to its root: what they make of a tree and of its sequence. No program in sight. -/
import Derived.Test.YtblopfgnhokocaaP1
set_option linter.unusedVariables false
set_option linter.unusedSimpArgs false
namespace Go.Proofs.Ytblopfgnhokocaa.P

def app (T : Tb) (x : Nat) (h : Nd → Nd) : Tb := upd T x (h (T x))
def appz (T : Tb) (x : Nat) (h : Nd → Nd) : Tb := if x = 0 then T else app T x h
def setUp (v : Nat) (d : Nd) : Nd := { d with up := v }
/-- rotate, step by step as the program does it: the links. -/
def rotL (T : Tb) (x : Nat) : Tb :=
  let p := (T x).up
  let g := (T p).up
  let b := decide ((T p).k1 = x)
  let i := (T x).kid (!b)
  app (app (appz (app (appz (app T p (fun d => d.setKid b i)) i (setUp p)) x (fun d => d.setKid (!b) p)) g (fun d => d.setKid (decide (d.k1 = p)) x)) p (setUp x)) x (setUp g)
def rot (T : Tb) (x : Nat) : Tb := pull (pull (rotL T x) (T x).up) x

theorem setKid_fields (d : Nd) (b : Bool) (v : Nat) : (d.setKid b v).up = d.up ∧ (d.setKid b v).size = d.size ∧ (d.setKid b v).mn = d.mn ∧ (d.setKid b v).turn = d.turn ∧ (d.setKid b v).val = d.val ∧ (d.setKid b v).sum = d.sum := by
  unfold Nd.setKid; split <;> exact ⟨rfl, rfl, rfl, rfl, rfl, rfl⟩
theorem app_at {α : Type} (q : Nd → α) {T : Tb} {x : Nat} {h : Nd → Nd} (e : ∀ d, q (h d) = q d) (y : Nat) : q (app T x h y) = q (T y) := by
  unfold app upd; split
  · rename_i e'; subst e'; exact e _
  · rfl
theorem appz_at {α : Type} (q : Nd → α) {T : Tb} {x : Nat} {h : Nd → Nd} (e : ∀ d, q (h d) = q d) (y : Nat) : q (appz T x h y) = q (T y) := by
  unfold appz; split
  · rfl
  · exact app_at q e y
theorem rotL_at' {α : Type} (q : Nd → α) (h1 : ∀ d b v, q (d.setKid b v) = q d) (h2 : ∀ d v, q (setUp v d) = q d) (T : Tb) (x y : Nat) : q (rotL T x y) = q (T y) := by
  unfold rotL
  rw [app_at q (h2 · _), app_at q (h2 · _), appz_at q (fun d => h1 d _ _), app_at q (fun d => h1 d _ _), appz_at q (h2 · _), app_at q (fun d => h1 d _ _)]
theorem rotL_val (T : Tb) (x y : Nat) : (rotL T x y).val = (T y).val := rotL_at' Nd.val (fun d b v => (setKid_fields d b v).2.2.2.2.1) (fun _ _ => rfl) T x y
theorem rotL_turn (T : Tb) (x y : Nat) : (rotL T x y).turn = (T y).turn := rotL_at' Nd.turn (fun d b v => (setKid_fields d b v).2.2.2.1) (fun _ _ => rfl) T x y
theorem rot_val (T : Tb) (x y : Nat) : (rot T x y).val = (T y).val := by
  unfold rot; rw [pull_val, pull_val, rotL_val]
theorem rot_turn (T : Tb) (x y : Nat) : (rot T x y).turn = (T y).turn := by
  unfold rot; rw [pull_turn, pull_turn, rotL_turn]

/-- What rotL makes of each node. -/
theorem rotL_at {T : Tb} {x p g i : Nat} {b : Bool} (hp : (T x).up = p) (hg : (T p).up = g) (hb : decide ((T p).k1 = x) = b) (hi : (T x).kid (!b) = i) (h1 : x ≠ p) (h2 : p ≠ g) (h3 : x ≠ g) (h4 : i ≠ 0 → i ≠ x ∧ i ≠ p ∧ i ≠ g) (hx0 : x ≠ 0) (hp0 : p ≠ 0) :
    rotL T x x = { (T x).setKid (!b) p with up := g } ∧ rotL T x p = { (T p).setKid b i with up := x } ∧ (i ≠ 0 → rotL T x i = { T i with up := p }) ∧
    (g ≠ 0 → rotL T x g = (T g).setKid (decide ((T g).k1 = p)) x) ∧ ∀ y, y ≠ x → y ≠ p → (i ≠ 0 → y ≠ i) → (g ≠ 0 → y ≠ g) → rotL T x y = T y := by
  unfold rotL
  dsimp only
  rw [hp, hg, hb, hi]
  have h1' := Ne.symm h1
  have h2' := Ne.symm h2
  have h3' := Ne.symm h3
  by_cases hi0 : i = 0 <;> by_cases hg0 : g = 0
  · refine ⟨?_, ?_, fun h => absurd hi0 h, fun h => absurd hg0 h, fun y a b _ _ => ?_⟩
    · simp [app, appz, upd, hi0, hg0, h1, setUp]
    · simp [app, appz, upd, hi0, hg0, h1', setUp]
    · simp [app, appz, upd, hi0, hg0, a, b]
  · refine ⟨?_, ?_, fun h => absurd hi0 h, fun _ => ?_, fun y a b _ d => ?_⟩
    · simp [app, appz, upd, hi0, hg0, h1, h3, setUp]
    · simp [app, appz, upd, hi0, hg0, h1', h2, setUp]
    · simp [app, appz, upd, hi0, hg0, h3', h2', setUp]
    · simp [app, appz, upd, hi0, hg0, a, b, d hg0]
  · obtain ⟨a1, a2, a3⟩ := h4 hi0
    refine ⟨?_, ?_, fun _ => ?_, fun h => absurd hg0 h, fun y a b c _ => ?_⟩
    · simp [app, appz, upd, hi0, hg0, h1, Ne.symm a1, setUp]
    · simp [app, appz, upd, hi0, hg0, h1', Ne.symm a2, setUp]
    · simp [app, appz, upd, hi0, hg0, a1, a2, setUp]
    · simp [app, appz, upd, hi0, hg0, a, b, c hi0]
  · obtain ⟨a1, a2, a3⟩ := h4 hi0
    refine ⟨?_, ?_, fun _ => ?_, fun _ => ?_, fun y a b c d => ?_⟩
    · simp [app, appz, upd, hi0, hg0, h1, h3, Ne.symm a1, setUp]
    · simp [app, appz, upd, hi0, hg0, h1', h2, Ne.symm a2, setUp]
    · simp [app, appz, upd, hi0, hg0, a1, a2, a3, setUp]
    · simp [app, appz, upd, hi0, hg0, h3', h2', Ne.symm a3, setUp]
    · simp [app, appz, upd, hi0, hg0, a, b, c hi0, d hg0]

/-- The tree behind a rotation. -/
def rotT (f : Fr) (l : Tr) (x : Nat) (r : Tr) : Tr := if f.b then .node (.node f.s f.p l) x r else .node l x (.node r f.p f.s)
theorem rotT_root (f : Fr) (l : Tr) (x : Nat) (r : Tr) : (rotT f l x r).root = x := by unfold rotT; split <;> rfl
theorem rotT_nodes (f : Fr) (l : Tr) (x : Nat) (r : Tr) : (rotT f l x r).nodes.Perm (mk f (.node l x r)).nodes := by
  unfold rotT mk
  split
  · simp [Tr.nodes, List.append_assoc]
  · simp [Tr.nodes, List.append_assoc]
/-- A rotation keeps the sequence. -/
theorem rotT_seq (τ : Nat → Bool) (f : Fr) (l : Tr) (x : Nat) (r : Tr) (h1 : τ x = false) (h2 : τ f.p = false) (a : Bool) : seq τ a (rotT f l x r) = seq τ a (mk f (.node l x r)) := by
  unfold rotT mk
  cases f.b <;> cases a <;> simp [seq, h1, h2, List.append_assoc]
theorem plug_seq_congr {τ : Nat → Bool} (c : List Fr) : ∀ {t t' : Tr}, (∀ a, seq τ a t = seq τ a t') → ∀ a, seq τ a (plug c t) = seq τ a (plug c t') := by
  induction c with
  | nil => intro t t' h a; exact h a
  | cons f c ih =>
    intro t t' h a
    refine ih (fun a => ?_) a
    unfold mk
    cases f.b <;> simp [seq, h]
theorem plug_perm (c : List Fr) {t t' : Tr} (h : t.nodes.Perm t'.nodes) : (plug c t).nodes.Perm (plug c t').nodes :=
  (plug_nodes c t).trans ((h.append_left _).trans (plug_nodes c t').symm)

/-- The children of a node are trees, of nodes out of ns. -/
def Kids (T : Tb) (x : Nat) (ns : List Nat) : Prop := ∃ A B, Rep T (T x).k0 x A ∧ Rep T (T x).k1 x B ∧ A.nodes.Nodup ∧ B.nodes.Nodup ∧ (∀ y ∈ A.nodes, y ∈ ns ∧ y ≠ x) ∧ ∀ y ∈ B.nodes, y ∈ ns ∧ y ≠ x
theorem rot_rep {T : Tb} {c : List Fr} {f : Fr} {l r : Tr} {x : Nat} (h : Rep T (plug (f :: c) (.node l x r)).root 0 (plug (f :: c) (.node l x r))) (nd : (plug (f :: c) (.node l x r)).nodes.Nodup) :
    Rep (rot T x) (plug c (rotT f l x r)).root 0 (plug c (rotT f l x r)) ∧ Kids (rotL T x) f.p (plug (f :: c) (.node l x r)).nodes ∧ Kids (pull (rotL T x) f.p) x (plug (f :: c) (.node l x r)).nodes ∧ ∀ y, y ∉ (plug (f :: c) (.node l x r)).nodes → rot T x y = T y := by
  have inw : ∀ y, (y = x ∨ y = f.p ∨ y ∈ l.nodes ∨ y ∈ r.nodes ∨ y ∈ f.s.nodes) → y ∈ (plug (f :: c) (.node l x r)).nodes := by
    intro y hy
    refine (plug_nodes (f :: c) (.node l x r)).mem_iff.2 ?_
    simp only [cn, List.flatMap_cons, Tr.nodes, List.mem_append, List.mem_cons]
    rcases hy with h | h | h | h | h <;> simp [h]
  have nd' := (plug_nodes (f :: c) (.node l x r)).nodup_iff.1 nd
  have h' := plug_rep.1 h
  obtain ⟨⟨_, hx0, hup, hfit, hl, hr⟩, hk, hp0, hpup, hpf, hs, hc⟩ := h'
  have hup : (T x).up = f.p := hup
  simp only [cn, List.flatMap_cons, Tr.nodes, List.cons_append, List.append_assoc, List.nodup_cons, List.nodup_append, List.mem_append, List.mem_cons, not_or] at nd'
  obtain ⟨⟨np1, np2, np3, np4, np5⟩, nds, ⟨ndc, ⟨ndl, ⟨nxr, ndr⟩, dlr⟩, dc⟩, ds⟩ := nd'
  have hgc : par c ≠ 0 → par c ∈ cn c := by
    intro hg; cases c with
    | nil => exact absurd rfl hg
    | cons f' c' => simp [par, cn]
  have xs : x ∉ f.s.nodes := fun hm => ds x hm x (.inr (.inr (.inl rfl))) rfl
  have xl : x ∉ l.nodes := fun hm => dlr x hm x (.inl rfl) rfl
  have xc : x ∉ cn c := fun hm => dc x hm x (.inr (.inl rfl)) rfl
  have xg : x ≠ par c := fun e => by
    by_cases hg : par c = 0
    · exact hx0 (e.trans hg)
    · exact xc (e ▸ hgc hg)
  have pg : f.p ≠ par c := fun e => by
    by_cases hg : par c = 0
    · exact hp0 (e.trans hg)
    · exact np2 (e ▸ hgc hg)
  have hb : decide ((T f.p).k1 = x) = f.b := by
    cases hfb : f.b with
    | true =>
      have : (T f.p).k1 = x := by simpa [Nd.kid, hfb, Tr.root] using hk
      simpa using this
    | false =>
      have e : (T f.p).k1 = f.s.root := by simpa [Nd.kid, hfb] using hs.link
      rw [e]
      refine decide_eq_false (fun e => ?_)
      have := Tr.root_mem (t := f.s) (by rw [e]; exact hx0)
      exact xs (e ▸ this)
  -- the inner tree
  obtain ⟨I, hI, hIm⟩ : ∃ I : Tr, Rep T ((T x).kid (!f.b)) x I ∧ ((I = l ∧ f.b = true) ∨ (I = r ∧ f.b = false)) := by
    cases hfb : f.b with
    | true => exact ⟨l, by simpa [Nd.kid] using hl, .inl ⟨rfl, rfl⟩⟩
    | false => exact ⟨r, by simpa [Nd.kid] using hr, .inr ⟨rfl, rfl⟩⟩
  have hIl := hI.link
  have memI : ∀ y ∈ I.nodes, y ∈ l.nodes ∨ y ∈ r.nodes := by
    intro y hy; rcases hIm with ⟨rfl, _⟩ | ⟨rfl, _⟩
    · exact .inl hy
    · exact .inr hy
  have hi : I.root ≠ 0 → I.root ≠ x ∧ I.root ≠ f.p ∧ I.root ≠ par c := by
    intro h0
    have hm := memI _ (Tr.root_mem h0)
    refine ⟨fun e => ?_, fun e => ?_, fun e => ?_⟩
    · rw [e] at hm; rcases hm with hm | hm
      · exact xl hm
      · exact nxr hm
    · rw [e] at hm; rcases hm with hm | hm
      · exact np3 hm
      · exact np5 hm
    · have hm' := hgc (by rw [← e]; exact h0)
      rw [← e] at hm'
      refine dc _ hm' I.root ?_ rfl
      rcases hm with hm | hm
      · exact .inl hm
      · exact .inr (.inr hm)
  obtain ⟨e1, e2, e3, e4, e5⟩ := rotL_at hup hpup hb hIl (Ne.symm np4) pg xg hi hx0 hp0
  have hv1 := rotL_val T x
  -- every node that is none of the four is as it was
  have far : ∀ y, y ≠ x → y ≠ f.p → y ∉ I.nodes → y ∉ cn c → rotL T x y = T y := by
    intro y a b h1 h2
    refine e5 y a b (fun hi e => h1 ?_) (fun hg e => h2 ?_)
    · rw [e]; exact Tr.root_mem hi
    · rw [e]; exact hgc hg
  have lr_c : ∀ y, y ∈ l.nodes ∨ y ∈ r.nodes → y ∉ cn c := fun y hy hm => dc y hm y (by rcases hy with hy | hy; exact .inl hy; exact .inr (.inr hy)) rfl
  have s_c : ∀ y, y ∈ f.s.nodes → y ∉ cn c := fun y hy hm => ds y hy y (.inl hm) rfl
  have s_lr : ∀ y, y ∈ f.s.nodes → y ∉ l.nodes ∧ y ∉ r.nodes := fun y hy => ⟨fun hm => ds y hy y (.inr (.inl hm)) rfl, fun hm => ds y hy y (.inr (.inr (.inr hm))) rfl⟩
  have l_r : ∀ y, y ∈ l.nodes → y ∉ r.nodes := fun y hy hm => dlr y hy y (.inr hm) rfl
  -- the subtrees behind the links have turned
  have repS : Rep (rotL T x) f.s.root f.p f.s := by
    refine (hs.link ▸ hs).congr hv1 nds (fun y hy => ?_)
    have : rotL T x y = T y := far y (fun e => xs (e ▸ hy)) (fun e => np1 (e ▸ hy)) (fun hm => by rcases memI y hm with h | h; exact (s_lr y hy).1 h; exact (s_lr y hy).2 h) (s_c y hy)
    rw [this]; exact ⟨Like.rfl, rfl⟩
  have ndI : I.nodes.Nodup := by rcases hIm with ⟨rfl, _⟩ | ⟨rfl, _⟩; exact ndl; exact ndr
  have repI : Rep (rotL T x) I.root f.p I := by
    have key : ∀ y ∈ I.nodes, y ≠ I.root → rotL T x y = T y := by
      intro y hy hne
      have hm := memI y hy
      refine e5 y (fun e => ?_) (fun e => ?_) (fun _ => hne) (fun hg e => ?_)
      · rw [e] at hm; rcases hm with hm | hm
        · exact xl hm
        · exact nxr hm
      · rw [e] at hm; rcases hm with hm | hm
        · exact np3 hm
        · exact np5 hm
      · exact lr_c y hm (e ▸ hgc hg)
    refine (hIl ▸ hI).like hv1 ndI (fun y hy => ?_) (fun y hy hne => by rw [key y hy hne]) (fun h0 => by rw [e3 h0])
    by_cases hne : y = I.root
    · subst hne; rw [e3 (hI.ne _ hy)]; exact ⟨rfl, rfl, rfl, rfl, rfl⟩
    · rw [key y hy hne]; exact Like.rfl
  have repO : ∀ (O : Tr), Rep T O.root x O → O.nodes.Nodup → (∀ y ∈ O.nodes, y ≠ x ∧ y ≠ f.p ∧ y ∉ I.nodes ∧ y ∉ cn c) → Rep (rotL T x) O.root x O := by
    intro O hO ndO hm
    refine hO.congr hv1 ndO (fun y hy => ?_)
    obtain ⟨a, b, c1, d⟩ := hm y hy
    rw [far y a b c1 d]; exact ⟨Like.rfl, rfl⟩
  have hcn : RepC (rotL T x) x (f.p :: f.s.nodes ++ (Tr.node l x r).nodes) c := by
    refine hc.kid hv1 ndc (fun y hy hne => ?_) (fun f' c' ec => ?_)
    · have : rotL T x y = T y := e5 y (fun e => xc (e ▸ hy)) (fun e => np2 (e ▸ hy)) (fun hi e => lr_c _ (memI _ (Tr.root_mem hi)) (e ▸ hy)) (fun _ => hne)
      rw [this]; exact ⟨Like.rfl, rfl⟩
    · subst ec
      have hc' := hc
      have hk' : (T f'.p).kid f'.b = f.p := hc'.1
      have hs' : Rep T ((T f'.p).kid (!f'.b)) f'.p f'.s := hc'.2.2.2.2.1
      have hp' : f'.p ≠ 0 := hc'.2.1
      rw [show f'.p = par (f' :: c') from rfl, e4 hp']
      congr 1
      cases hfb : f'.b with
      | true =>
        have : (T f'.p).k1 = f.p := by simpa [Nd.kid, hfb] using hk'
        exact decide_eq_true this
      | false =>
        have e : (T f'.p).k1 = f'.s.root := by simpa [Nd.kid, hfb] using hs'.link
        show decide ((T f'.p).k1 = f.p) = false
        rw [e]
        refine decide_eq_false (fun e => ?_)
        have := Tr.root_mem (t := f'.s) (by rw [e]; exact hp0)
        exact np2 (by rw [← e]; simp [cn, this])
  have cong_pull : ∀ {U : Tb} {z : Nat} {k q : Nat} {t : Tr}, Rep U k q t → t.nodes.Nodup → z ∉ t.nodes → Rep (pull U z) k q t := by
    intro U z k q t hh nn hz
    exact hh.congr (pull_val U z) nn (fun y hy => by rw [show pull U z y = U y from upd_ne (fun e => hz (e ▸ hy))]; exact ⟨Like.rfl, rfl⟩)
  have cong_pullC : ∀ {U : Tb} {z : Nat} {k : Nat} {ns : List Nat}, RepC U k ns c → z ∉ cn c → RepC (pull U z) k ns c := by
    intro U z k ns hh hz
    exact hh.congr (pull_val U z) ndc (fun y hy => by rw [show pull U z y = U y from upd_ne (fun e => hz (e ▸ hy))]; exact ⟨Like.rfl, rfl⟩)
  have ek : ∀ (d : Nd) (b : Bool) (v : Nat), (d.setKid b v).kid b = v ∧ (d.setKid b v).kid (!b) = d.kid (!b) := by
    intro d b v; cases b <;> exact ⟨rfl, rfl⟩
  have e2u : (rotL T x f.p).up = x := by rw [e2]
  have e1u : (rotL T x x).up = par c := by rw [e1]
  have pullp_x : pull (rotL T x) f.p x = rotL T x x := upd_ne (Ne.symm np4)
  have hpp : rot T x = pull (pull (rotL T x) f.p) x := by unfold rot; rw [hup]
  have main : Rep (pull (pull (rotL T x) f.p) x) x (par c) (rotT f l x r) ∧ Kids (rotL T x) f.p (plug (f :: c) (.node l x r)).nodes ∧ Kids (pull (rotL T x) f.p) x (plug (f :: c) (.node l x r)).nodes := by
    cases hfb : f.b with
    | true =>
      rcases hIm with ⟨rfl, _⟩ | ⟨_, hh⟩
      case inr => rw [hfb] at hh; cases hh
      unfold rotT; rw [hfb]
      simp only [if_true]
      have dls : (f.s.nodes ++ f.p :: I.nodes).Nodup := by
        rw [List.nodup_append]
        refine ⟨nds, List.nodup_cons.2 ⟨np3, ndl⟩, fun a ha b hb e => ?_⟩
        subst e
        rcases List.mem_cons.1 hb with rfl | hb
        · exact np1 ha
        · exact (s_lr a ha).1 hb
      have q1 : Rep (rotL T x) (rotL T x f.p).k0 f.p f.s := by
        have : (rotL T x f.p).k0 = f.s.root := by rw [e2, hfb]; have := hs.link; simpa [Nd.kid, Nd.setKid, hfb] using this
        rw [this]; exact repS
      have q2 : Rep (rotL T x) (rotL T x f.p).k1 f.p I := by
        have : (rotL T x f.p).k1 = I.root := by rw [e2, hfb]; simp [Nd.setKid]
        rw [this]; exact repI
      have r1 : Rep (pull (rotL T x) f.p) f.p x (.node f.s f.p I) := pull_rep hp0 e2u dls q1 q2
      have r2 : Rep (pull (rotL T x) f.p) r.root x r := by
        refine cong_pull (repO r (hr.link ▸ hr) ndr (fun y hy => ⟨fun e => nxr (e ▸ hy), fun e => np5 (e ▸ hy), fun hm => l_r y hm hy, lr_c y (.inr hy)⟩)) ndr np5
      have ndw : ((f.s.nodes ++ f.p :: I.nodes) ++ x :: r.nodes).Nodup := by
        rw [List.nodup_append]
        refine ⟨dls, List.nodup_cons.2 ⟨nxr, ndr⟩, fun a ha b hb e => ?_⟩
        subst e
        rcases List.mem_append.1 ha with ha | ha
        · rcases List.mem_cons.1 hb with rfl | hb
          · exact xs ha
          · exact (s_lr a ha).2 hb
        · rcases List.mem_cons.1 ha with rfl | ha
          · rcases List.mem_cons.1 hb with hb | hb
            · exact np4 hb
            · exact np5 hb
          · rcases List.mem_cons.1 hb with rfl | hb
            · exact xl ha
            · exact l_r a ha hb
      have z1 : Rep (pull (rotL T x) f.p) (pull (rotL T x) f.p x).k0 x (.node f.s f.p I) := by
        have : (pull (rotL T x) f.p x).k0 = f.p := by rw [pullp_x, e1, hfb]; simp [Nd.setKid]
        rw [this]; exact r1
      have z2 : Rep (pull (rotL T x) f.p) (pull (rotL T x) f.p x).k1 x r := by
        have : (pull (rotL T x) f.p x).k1 = r.root := by rw [pullp_x, e1, hfb]; have := hr.link; simpa [Nd.setKid] using this
        rw [this]; exact r2
      refine ⟨pull_rep hx0 (by rw [pullp_x, e1u]) ndw z1 z2, ⟨_, _, q1, q2, nds, ndl, fun y hy => ⟨inw y (by simp [hy]), fun e => np1 (e ▸ hy)⟩, fun y hy => ⟨inw y (by simp [hy]), fun e => np3 (e ▸ hy)⟩⟩, ⟨_, _, z1, z2, dls, ndr, fun y hy => ?_, fun y hy => ⟨inw y (by simp [hy]), fun e => nxr (e ▸ hy)⟩⟩⟩
      simp only [Tr.nodes, List.mem_append, List.mem_cons] at hy
      rcases hy with hy | hy | hy
      · exact ⟨inw y (by simp [hy]), fun e => xs (e ▸ hy)⟩
      · exact ⟨inw y (by simp [hy]), fun e => np4 (hy ▸ e)⟩
      · exact ⟨inw y (by simp [hy]), fun e => xl (e ▸ hy)⟩
    | false =>
      rcases hIm with ⟨_, hh⟩ | ⟨rfl, _⟩
      case inl => rw [hfb] at hh; cases hh
      unfold rotT; rw [hfb]
      simp only [if_false, Bool.false_eq_true]
      have dls : (I.nodes ++ f.p :: f.s.nodes).Nodup := by
        rw [List.nodup_append]
        refine ⟨ndr, List.nodup_cons.2 ⟨np1, nds⟩, fun a ha b hb e => ?_⟩
        subst e
        rcases List.mem_cons.1 hb with rfl | hb
        · exact np5 ha
        · exact (s_lr a hb).2 ha
      have q1 : Rep (rotL T x) (rotL T x f.p).k0 f.p I := by
        have : (rotL T x f.p).k0 = I.root := by rw [e2, hfb]; simp [Nd.setKid]
        rw [this]; exact repI
      have q2 : Rep (rotL T x) (rotL T x f.p).k1 f.p f.s := by
        have : (rotL T x f.p).k1 = f.s.root := by rw [e2, hfb]; have := hs.link; simpa [Nd.kid, Nd.setKid, hfb] using this
        rw [this]; exact repS
      have r1 : Rep (pull (rotL T x) f.p) f.p x (.node I f.p f.s) := pull_rep hp0 e2u dls q1 q2
      have r2 : Rep (pull (rotL T x) f.p) l.root x l := by
        refine cong_pull (repO l (hl.link ▸ hl) ndl (fun y hy => ⟨fun e => xl (e ▸ hy), fun e => np3 (e ▸ hy), fun hm => l_r y hy hm, lr_c y (.inl hy)⟩)) ndl np3
      have ndw : (l.nodes ++ x :: (I.nodes ++ f.p :: f.s.nodes)).Nodup := by
        rw [List.nodup_append]
        refine ⟨ndl, List.nodup_cons.2 ⟨?_, dls⟩, fun a ha b hb e => ?_⟩
        · simp only [Tr.nodes, List.mem_append, List.mem_cons, not_or]
          exact ⟨nxr, Ne.symm np4, xs⟩
        · subst e
          rcases List.mem_cons.1 hb with rfl | hb
          · exact xl ha
          · rcases List.mem_append.1 hb with hb | hb
            · exact l_r a ha hb
            · rcases List.mem_cons.1 hb with rfl | hb
              · exact np3 ha
              · exact (s_lr a hb).1 ha
      have z1 : Rep (pull (rotL T x) f.p) (pull (rotL T x) f.p x).k0 x l := by
        have : (pull (rotL T x) f.p x).k0 = l.root := by rw [pullp_x, e1, hfb]; have := hl.link; simpa [Nd.setKid] using this
        rw [this]; exact r2
      have z2 : Rep (pull (rotL T x) f.p) (pull (rotL T x) f.p x).k1 x (.node I f.p f.s) := by
        have : (pull (rotL T x) f.p x).k1 = f.p := by rw [pullp_x, e1, hfb]; simp [Nd.setKid]
        rw [this]; exact r1
      refine ⟨pull_rep hx0 (by rw [pullp_x, e1u]) ndw z1 z2, ⟨_, _, q1, q2, ndr, nds, fun y hy => ⟨inw y (by simp [hy]), fun e => np5 (e ▸ hy)⟩, fun y hy => ⟨inw y (by simp [hy]), fun e => np1 (e ▸ hy)⟩⟩, ⟨_, _, z1, z2, ndl, dls, fun y hy => ⟨inw y (by simp [hy]), fun e => xl (e ▸ hy)⟩, fun y hy => ?_⟩⟩
      simp only [Tr.nodes, List.mem_append, List.mem_cons] at hy
      rcases hy with hy | hy | hy
      · exact ⟨inw y (by simp [hy]), fun e => nxr (e ▸ hy)⟩
      · exact ⟨inw y (by simp [hy]), fun e => np4 (hy ▸ e)⟩
      · exact ⟨inw y (by simp [hy]), fun e => xs (e ▸ hy)⟩
  refine ⟨?_, main.2.1, main.2.2, ?_⟩
  · refine plug_rep.2 ?_
    rw [rotT_root, hpp]
    refine ⟨main.1, ?_⟩
    refine (cong_pullC (cong_pullC hcn np2) xc).perm ?_
    exact ((rotT_nodes f l x r).trans (mk_nodes f (.node l x r))).symm
  · intro y hy
    have hy' : y ∉ cn (f :: c) ++ (Tr.node l x r).nodes := fun hm => hy ((plug_nodes (f :: c) (.node l x r)).mem_iff.2 hm)
    simp only [cn, List.flatMap_cons, Tr.nodes, List.cons_append, List.append_assoc, List.mem_append, List.mem_cons, not_or] at hy'
    obtain ⟨y1, y2, y3, y4, y5, y6⟩ := hy'
    rw [hpp, show pull (pull (rotL T x) f.p) x y = pull (rotL T x) f.p y from upd_ne y5, show pull (rotL T x) f.p y = rotL T x y from upd_ne y1]
    exact far y y5 y1 (fun hm => by rcases memI y hm with h | h; exact y4 h; exact y6 h) y3
end Go.Proofs.Ytblopfgnhokocaa.P
