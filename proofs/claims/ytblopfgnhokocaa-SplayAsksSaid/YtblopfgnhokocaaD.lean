/- THE CONTRACT of package splay's path: the nodes from one up to its root. -/
import Derived.Test.YtblopfgnhokocaaC
import Derived.Test.YtblopfgnhokocaaRng
import Derived.RangeFuncBound
import Derived.Shelf.Abstract
import Derived.Shelf.RegionOpen
import Derived.OwnWalkIn
import Derived.TacticsInMore
import Derived.LoopNIn
import Derived.LoopIn
import Derived.Sort.LoopGhostIn
import Derived.Deep.LoopGhost
namespace Go.Proofs.Ytblopfgnhokocaa
open Go.RowKit Go.Shelf P Rng
set_option linter.unusedVariables false
set_option linter.unusedSimpArgs false
attribute [local go_sem] Oper.semAt_some

/-- The road from a node up. -/
def Road (T : Tb) : Nat → List Nat → Prop
  | x, [] => x = 0
  | x, y :: A => x = y ∧ x ≠ 0 ∧ Road T (T x).up A
theorem road_le {T : Tb} {n x : Nat} {A : List Nat} (h : Road T x A) (hA : ∀ y ∈ A, y ≤ n) : x ≤ n := by
  cases A with
  | nil => obtain rfl : x = 0 := h; omega
  | cons y A => obtain ⟨rfl, _, _⟩ := h; exact hA x (by simp)
/-- path's own steps: its variable. -/
def St (bx : Nat) (A B : World) : Prop := ∃ v : Value, B = (A.setCell ⟨bx, 0, none⟩ v).drew
/-- What a round keeps. -/
def Kp (bs : List Nat) (A B : World) : Prop := ∀ k ∈ bs, B.heap[k]? = A.heap[k]?
theorem Bk.kp {bs : List Nat} {A B : World} {g : Nat} {t : TypeId} {cs : List Value} (h : Bk A g t cs) (k : Kp bs A B) (hg : g ∈ bs) : Bk B g t cs := (k g hg).trans h
theorem RTab.kp {bs : List Nat} {A B : World} {g n : Nat} {C : Nat → Nat → Value} (h : RTab A g n C) (k : Kp bs A B) (hg : g ∈ bs) : RTab B g n C := by
  have hb := k g hg
  refine ⟨fun x f hx hf => (World.cell?_of_block (w := A) (a := ⟨g, x * 9 + f, none⟩) hb).trans (h.1 x f hx hf), fun o => ?_⟩
  have := h.2 o
  unfold World.frozen? at this ⊢
  rw [hb]; exact this
theorem Ob.kp {bs : List Nat} {A B : World} {p g n cap : Nat} (h : Ob A p g n cap) (k : Kp bs A B) (hp : p ∈ bs) : Ob B p g n cap :=
  ⟨(World.cell?_of_block (w := A) (k p hp)).trans h.1, (World.cell?_of_block (w := A) (k p hp)).trans h.2⟩
theorem RTab.setfar {w : World} {g n b o : Nat} {C : Nat → Nat → Value} {v : Value} (h : RTab w g n C) (hne : ¬ b = g) : RTab (w.setCell ⟨b, o, none⟩ v) g n C :=
  ⟨fun x f hx hf => (World.cell?_setCell_other _ _ _ _ (by intro e; injection e with e; exact hne e)).trans (h.1 x f hx hf), fun o => by rw [World.frozen?_setCell]; exact h.2 o⟩
theorem Ob.setfar {w : World} {p g n cap b o : Nat} {v : Value} (h : Ob w p g n cap) (hne : ¬ b = p) : Ob (w.setCell ⟨b, o, none⟩ v) p g n cap :=
  ⟨(World.cell?_setCell_other _ _ _ _ (by intro e; injection e with e; exact hne e)).trans h.1, (World.cell?_setCell_other _ _ _ _ (by intro e; injection e with e; exact hne e)).trans h.2⟩

set_option maxRecDepth 100000 in
set_option maxHeartbeats 2000000 in
theorem path1_in (l bx bs ob g n cap : Nat) (T : Tb) (hn : n ≤ 65536) (d1 : ¬ bx = ob) (d2 : ¬ bx = g) (d3 : ¬ bx = bs) (ks : List Nat) (k1 : bx ∈ ks) (k2 : bs ∈ ks) (k3 : ob ∈ ks) (k4 : g ∈ ks) (J Jx : List Nat → World → Prop)
    (hJs : ∀ s A B, J s A → St bx A B → J s B) (N : Nat)
    (hY : ∀ pre x W, J pre W → pre.length < N → YieldAt Fence.wide 0 Try.prog l #[.int .i32 (x : Nat)] W fun e W' => (e = .returned (.bool true) ∧ J (pre ++ [x]) W' ∧ Kp ks W W') ∨ (e = .returned (.bool false) ∧ Jx (pre ++ [x]) W'))
    (W : World) (x : Nat) (hx : x ≤ n) (A : List Nat) (hT0 : ∀ y ∈ A, y ≤ n) (hA : Road T x A) (hN : A.length ≤ N) (hT : Tab W g n T) (hO : Ob W ob g n cap) (hbx : Bk W bx 21 [.int .i32 x]) (hbs : Bk W bs 23 [.pointer (some ⟨ob, 0, none⟩)]) (h0 : J [] W) :
    CallsIn Fence.wide 0 Try.prog 60 #[.func (.yield l) #[] #[], .pointer (some ⟨bx, 0, none⟩), .pointer (some ⟨bs, 0, none⟩)] W fun e W' => (∃ v, e = .returned v) ∧ (J A W' ∨ ∃ pre, Jx pre W') := by
  refine callsIn_of_wp Try.func60 rfl trivial ?_
  simp only [Try.ntmps60, List.size_toArray, List.length_cons, List.length_nil, Nat.reduceAdd, Nat.reduceSub, Array.replicate_succ, Array.replicate_zero, List.push_toArray, List.append_toArray, List.nil_append, List.cons_append]
  have HJS := Lib.hid hJs
  have HY := Lib.hid hY
  have HU := Lib.hid hT0
  have HN := Lib.hid hN
  have HT := Lib.hid hT
  have HO := Lib.hid hO
  have HX := Lib.hid hbx
  have HS := Lib.hid hbs
  have H0 := Lib.hid h0
  have HA := Lib.hid hA
  have KS := Lib.hid (And.intro k1 (And.intro k2 (And.intro k3 k4)))
  clear hJs hY hT0 hN hT hO hbx hbs h0 hA k1 k2 k3 k4
  gi_wp2
  gi_loopg [] A.length (fun gk wr => ∃ (pre rest : List Nat) (y : Nat), y ≤ n ∧ Hid (A = pre ++ rest) ∧ Hid (rest.length = gk) ∧ Hid (Road T y rest) ∧ Hid (Tab wr g n T) ∧ Hid (Ob wr ob g n cap) ∧ Hid (Bk wr bx 21 [.int .i32 y]) ∧ Hid (Bk wr bs 23 [.pointer (some ⟨ob, 0, none⟩)]) ∧ Hid (J pre wr))
  case atStart => exact ⟨[], A, x, hx, rfl, rfl, HA, HT, HO, HX, HS, H0⟩
  case round =>
    obtain ⟨pre, rest, y, hy, hA, hL, hR, hT, hO, hX, hS, hJ⟩ := hrel
    have cx : wr.cell? ⟨bx, 0, none⟩ = some (.int .i32 y) := hX.out.cell 0
    cases rest with
    | nil =>
      have hy0 : y = 0 := hR.out
      have t0 : ((y : Int) != 0) = false := by simp [hy0]
      have HF : Hid (J A wr) := by have := hA.out; rw [List.append_nil] at this; subst this; exact hJ.out
      clear hy0 hA hR hT hO hX hS hJ HA HT HO HX HS H0
      gi_wp2
      refine ⟨fun _ h => (by cases h), ?_⟩
      gi_wp2
      go_end0
      exact ⟨⟨_, rfl⟩, .inl HF.out⟩
    | cons z rest =>
      obtain ⟨rfl, hy0, hR'⟩ := hR.out
      have t0 : ((y : Int) != 0) = true := by simp; omega
      obtain ⟨fn, tmps, assign, body, hyl, hRd⟩ := HY.out pre y wr hJ.out (by have := HN.out; have := hA.out; have := congrArg List.length this; simp at this; omega)
      clear hR
      gi_wp2
      refine ⟨rfl, ?_⟩
      refine hRd.mono ?_
      rintro e W3 (⟨rfl, hJ3, hK3⟩ | ⟨rfl, hX3⟩)
      · have T3 := Lib.hid (RTab.kp hT.out hK3 KS.out.2.2.2)
        have O3 := Lib.hid (hO.out.kp hK3 KS.out.2.2.1)
        have X3 := Lib.hid (hX.out.kp hK3 KS.out.1)
        have S3 := Lib.hid (hS.out.kp hK3 KS.out.2.1)
        have J3 := Lib.hid hJ3
        have hup : (T y).up ≤ n := road_le hR' (fun z hz => HU.out z (by have e : A = _ := hA.out; rw [e]; simp [hz]))
        obtain ⟨u, hu⟩ : ∃ u, (T y).up = u := ⟨_, rfl⟩
        rw [hu] at hR' hup
        have c1 : W3.cell? ⟨bs, 0, none⟩ = some (.pointer (some ⟨ob, 0, none⟩)) := S3.out.cell 0
        have c2 : W3.cell? ⟨ob, 1, none⟩ = some (.slice (some ⟨g, 0, none⟩) (n + 1) cap) := O3.out.2
        have c3 : W3.cell? ⟨bx, 0, none⟩ = some (.int .i32 y) := X3.out.cell 0
        have c4 : W3.cell? ⟨g, y * 9 + 2, none⟩ = some (.int .i32 u) := RTab.cup T3.out hy hu
        have c5 : W3.frozen? ⟨bx, 0, none⟩ = false := X3.out.frozen 0
        have R3 := Lib.hid hR'
        clear hR' hJ3 hK3 hu hRd hyl cx hT hO hX hS hJ
        have FJ : Hid (J (pre ++ [y]) (W3.setCell ⟨bx, 0, none⟩ (.int .i32 u)).drew) := HJS.out _ _ _ J3.out ⟨_, rfl⟩
        have FT : Hid (Tab (W3.setCell ⟨bx, 0, none⟩ (.int .i32 u)).drew g n T) := RTab.drew (T3.out.setfar d2)
        have FO : Hid (Ob (W3.setCell ⟨bx, 0, none⟩ (.int .i32 u)).drew ob g n cap) := (O3.out.setfar d1).drew
        have FX : Hid (Bk (W3.setCell ⟨bx, 0, none⟩ (.int .i32 u)).drew bx 21 [.int .i32 u]) := (X3.out.set 0 _).drew
        have FS : Hid (Bk (W3.setCell ⟨bx, 0, none⟩ (.int .i32 u)).drew bs 23 [.pointer (some ⟨ob, 0, none⟩)]) := (S3.out.far (fun e => d3 e.symm) _).drew
        have HA2 : Hid (A = (pre ++ [y]) ++ rest) := by have := hA.out; show _ = _; rw [this]; simp
        have HL2 : rest.length < gk := by have := hL.out; simp at this; omega
        clear J3 T3 O3 X3 S3
        gi_wp2
        gi_region
        gi_wp2
        go_roundg rest.length
        case measure => exact HL2
        case rel => exact ⟨pre ++ [y], rest, u, hup, HA2, rfl, R3, FT, FO, FX, FS, FJ⟩
      · have HX3 := Lib.hid hX3
        clear hX3 hRd hyl cx hT hO hX hS hJ
        gi_wp2
        go_end0
        exact ⟨⟨_, rfl⟩, .inr ⟨_, HX3.out⟩⟩
end Go.Proofs.Ytblopfgnhokocaa
