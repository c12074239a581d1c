/- WireApart's state: two writers in one array, two rows of what was put. -/
import Derived.Test.YtnhhmkgcgogddaaAtWriter
import Derived.Test.YtnhhmkgcgogddaaApartSame
import Derived.Test.YtnhhmkgcgogddaaBackWalk
namespace Go.Proofs.Ytnhhmkgcgogddaa.apart
open Go.RowKit Go.Proofs.Ytnhhmkgcgogddaa.wireWrites Go.Proofs.Ytnhhmkgcgogddaa.wireBack Go.Proofs.Ytnhhmkgcgogddaa.putLoop
set_option linter.unusedVariables false

theorem owns_slice {w : World} {base e size n : Nat} {v : Value} {xs : List Value} (h : w.ownsRow base e size v n xs) : ∃ A c, v = .slice A n c := by
  rcases h.2 with ⟨rfl, h0⟩ | ⟨g, cap, cur, rfl, -⟩
  · exact ⟨_, _, by rw [h0]⟩
  · exact ⟨_, _, rfl⟩
/-- The own blocks of two values are not the same. -/
def Far (a b : Value) : Prop := ∀ k, a.ownBlock = some k → ¬ b.ownBlock = some k

structure Sd (w0 : World) (base k : Nat) (v : Value) (zs : List Int) (n : Value) (got : List It) (wr : World) : Prop where
  row : Row .u8 5 wr base v zs
  now : Now wr base n got
  far : Far v n
  out : zs = outF got
  gl : got.length ≤ k
  zl : zs.length ≤ 65546 * k
  good : ∀ x ∈ got, putLoop.Good w0 x
theorem Sd.lt {w0 : World} {base k : Nat} {v : Value} {zs : List Int} {n : Value} {got : List It} {wr : World} (h : Sd w0 base k v zs n got wr) : (∀ b, v.ownBlock = some b → base ≤ b ∧ b < wr.heap.size) ∧ (∀ b, n.ownBlock = some b → base ≤ b ∧ b < wr.heap.size) :=
  ⟨fun b e => h.row.lt b e, fun b e => World.ownsRow.lt h.now b e⟩
theorem Sd.keeps {S : Nat → Prop} {w0 : World} {base k : Nat} {v : Value} {zs : List Int} {n : Value} {got : List It} {wr w' : World} (h : Sd w0 base k v zs n got wr) (hk : Keeps S wr w') (h1 : ∀ b, v.ownBlock = some b → ¬ S b) (h2 : ∀ b, n.ownBlock = some b → ¬ S b) : Sd w0 base k v zs n got w' :=
  ⟨h.row.keeps hk h1, h.now.keeps hk h2, h.far, h.out, h.gl, h.zl, h.good⟩
theorem Sd.next {w0 : World} {base k : Nat} {v : Value} {zs : List Int} {n : Value} {got : List It} {wr : World} (h : Sd w0 base k v zs n got wr) : Sd w0 base (k + 1) v zs n got wr :=
  ⟨h.row, h.now, h.far, h.out, Nat.le_succ_of_le h.gl, by have := h.zl; omega, h.good⟩

structure Both (w0 : World) (base k : Nat) (v : Value) (zs : List Int) (n : Value) (got : List It) (v2 : Value) (zs2 : List Int) (n2 : Value) (got2 : List It) (wr : World) : Prop where
  a : Sd w0 base k v zs n got wr
  b : Sd w0 base k v2 zs2 n2 got2 wr
  x : Far v v2 ∧ Far v n2 ∧ Far n v2 ∧ Far n n2
theorem Far.symm {a b : Value} (h : Far a b) : Far b a := fun k e f => h k f e
theorem Both.swap {w0 : World} {base k : Nat} {v : Value} {zs : List Int} {n : Value} {got : List It} {v2 : Value} {zs2 : List Int} {n2 : Value} {got2 : List It} {wr : World} (h : Both w0 base k v zs n got v2 zs2 n2 got2 wr) : Both w0 base k v2 zs2 n2 got2 v zs n got wr :=
  ⟨h.b, h.a, h.x.1.symm, h.x.2.2.1.symm, h.x.2.1.symm, h.x.2.2.2.symm⟩
theorem Both.keeps {S : Nat → Prop} {w0 : World} {base k : Nat} {v : Value} {zs : List Int} {n : Value} {got : List It} {v2 : Value} {zs2 : List Int} {n2 : Value} {got2 : List It} {wr w' : World} (h : Both w0 base k v zs n got v2 zs2 n2 got2 wr) (hk : Keeps S wr w') (hS : ∀ i, S i → i < base) : Both w0 base k v zs n got v2 zs2 n2 got2 w' :=
  ⟨h.a.keeps hk (fun b e f => by have := (h.a.lt.1 b e).1; have := hS b f; omega) (fun b e f => by have := (h.a.lt.2 b e).1; have := hS b f; omega),
   h.b.keeps hk (fun b e f => by have := (h.b.lt.1 b e).1; have := hS b f; omega) (fun b e f => by have := (h.b.lt.2 b e).1; have := hS b f; omega), h.x⟩
theorem Both.grew {w0 : World} {base k : Nat} {v : Value} {zs : List Int} {n : Value} {got : List It} {v2 : Value} {zs2 : List Int} {n2 : Value} {got2 : List It} {wr w' : World} (h : Both w0 base k v zs n got v2 zs2 n2 got2 wr) (hk : Keeps None wr w') : Both w0 base k v zs n got v2 zs2 n2 got2 w' := h.keeps hk (fun _ f => f.elim)
theorem Both.next {w0 : World} {base k : Nat} {v : Value} {zs : List Int} {n : Value} {got : List It} {v2 : Value} {zs2 : List Int} {n2 : Value} {got2 : List It} {wr : World} (h : Both w0 base k v zs n got v2 zs2 n2 got2 wr) : Both w0 base (k + 1) v zs n got v2 zs2 n2 got2 wr := ⟨h.a.next, h.b.next, h.x⟩

/-- What a round may turn: the writers' block and the rows. -/
def Up (g base : Nat) : Nat → Prop := fun i => i = g ∨ base ≤ i

/-- The writer's part of a round. -/
theorem Both.put {w0 : World} {base k : Nat} {v : Value} {zs : List Int} {n : Value} {got : List It} {v2 : Value} {zs2 : List Int} {n2 : Value} {got2 : List It} {w1 w2 : World} {v' : Value} {zs' : List Int} {g : Nat}
    (h : Both w0 base k v zs n got v2 zs2 n2 got2 w1) (hg : g < base) (hr : Row .u8 5 w2 base v' zs') (hk : Keeps (Wt g v) w1 w2) (hn : ∀ b, v'.ownBlock = some b → v.ownBlock = some b ∨ w1.heap.size ≤ b) :
    Now w2 base n got ∧ Sd w0 base k v2 zs2 n2 got2 w2 ∧ Far v' n ∧ Far v' v2 ∧ Far v' n2 := by
  have la := h.a.lt
  have lb := h.b.lt
  have off : ∀ (u : Value), Far v u → (∀ b, u.ownBlock = some b → base ≤ b ∧ b < w1.heap.size) → (∀ b, u.ownBlock = some b → ¬ Wt g v b) ∧ Far v' u := by
    intro u hf hu
    refine ⟨fun b e f => ?_, fun b e f => ?_⟩
    · rcases f with f | f
      · have := (hu b e).1; omega
      · exact hf b f e
    · rcases hn b e with q | q
      · exact hf b q f
      · have := (hu b f).2; omega
  have o1 := off n h.a.far la.2
  have o2 := off v2 h.x.1 lb.1
  have o3 := off n2 h.x.2.1 lb.2
  exact ⟨h.a.now.keeps hk o1.1, h.b.keeps hk o2.1 o3.1, o1.2, o2.2, o3.2⟩

/-- A round that puts. -/
theorem Both.more {w0 : World} {base k : Nat} {v : Value} {zs : List Int} {n : Value} {got : List It} {v2 : Value} {zs2 : List Int} {n2 : Value} {got2 : List It} {w1 w2 w3 w4 : World} {v' n' : Value} {g : Nat} (x : It)
    (h : Both w0 base k v zs n got v2 zs2 n2 got2 w1) (hx : putLoop.Good w0 x) (hg : g < base) (hr : Row .u8 5 w2 base v' (zs ++ itemF x.kind x.n x.bs)) (hk : Keeps (Wt g v) w1 w2) (hn : ∀ b, v'.ownBlock = some b → v.ownBlock = some b ∨ w1.heap.size ≤ b)
    (h23 : Keeps None w2 w3) (hap : w4.ownsRow base 32 3 n' (got.length + 1) (itCells got ++ [.int .i64 x.kind, .int .i64 x.n, .slice x.A x.len x.cap])) (hk4 : Keeps (OwnB n) w3 w4) (hloc : n'.ownBlock = n.ownBlock ∨ n'.ownBlock = some w3.heap.size) :
    Both w0 base (k + 1) v' (zs ++ itemF x.kind x.n x.bs) n' (got ++ [x]) v2 zs2 n2 got2 w4 ∧ Keeps (Up g base) w1 w4 := by
  obtain ⟨p1, p2, p3, p4, p5⟩ := h.put hg hr hk hn
  have s1 := hk.size
  have s2 := h23.size
  have la := h.a.lt
  have ln : ∀ b, n.ownBlock = some b → base ≤ b ∧ b < w2.heap.size := fun b e => World.ownsRow.lt p1 b e
  have lv := fun b (e : v'.ownBlock = some b) => hr.lt b e
  have lo := p2.lt
  have off : ∀ (u : Value), Far n u → (∀ b, u.ownBlock = some b → base ≤ b ∧ b < w2.heap.size) → (∀ b, u.ownBlock = some b → ¬ OwnB n b) ∧ Far n' u := by
    intro u hf hu
    refine ⟨fun b e f => hf b f e, fun b e f => ?_⟩
    rcases hloc with q | q
    · rw [q] at e; exact hf b e f
    · rw [e] at q; cases q; have := (hu _ f).2; omega
  have o1 := off v' p3.symm lv
  have o2 := off v2 h.x.2.2.1 lo.1
  have o3 := off n2 h.x.2.2.2 lo.2
  refine ⟨⟨⟨(hr.keeps h23 (fun _ _ f => f)).keeps hk4 o1.1, ?_, o1.2.symm, ?_, ?_, ?_, ?_⟩, (p2.next.keeps h23 (fun _ _ f => f) (fun _ _ f => f)).keeps hk4 o2.1 o3.1, p4, p5, o2.2, o3.2⟩, ?_⟩
  · unfold Now
    rw [List.length_append, itCells_snoc]
    exact hap
  · rw [h.a.out, outF_snoc]; rfl
  · have := h.a.gl; simp; omega
  · have := itemF_len (kind := x.kind) (n := x.n) (bs := x.bs) (by rw [hx.ok.len]; exact hx.ok.long) hx.ok.n
    have := h.a.zl
    rw [List.length_append]; omega
  · intro y hy
    rcases List.mem_append.1 hy with q | q
    · exact h.a.good y q
    · simp at q; subst q; exact hx
  · refine (Keeps.trans (hk.mono fun i _ e => ?_) (h23.mono fun i _ e => e.elim)).trans (hk4.mono fun i _ e => ?_)
    · rcases e with e | e
      · exact .inl e
      · exact .inr (la.1 i e).1
    · exact .inr (ln i e).1

/-- One thing of those that were put is read again. -/
theorem cread_back (g base : Nat) (v : Value) (zs rest : List Int) (x : It) (P : Nat) (w w0 : World) (h : (⟨P, 0, 0⟩ : St).at w g base v zs) (hr : zs.length ≤ 140737488351232) (hb : Bytes zs) (hx : putLoop.Good w0 x) (hd : zs.drop P = x.out ++ rest) :
    Calls Try.prog 33 #[.pointer (some ⟨g, 0, Option.none⟩), .int .i64 x.kind] w (fun e w' => ∃ n2 A2 l2 c2, e = .returned (.agg #[.int .i64 x.kind, .int .i64 n2, .slice A2 l2 c2]) ∧ (x.kind ≤ 2 → n2 = x.n) ∧ (2 < x.kind → Nums .u8 w' A2 x.bs ∧ x.bs.length = l2) ∧ (⟨P + x.out.length, 0, 0⟩ : St).at w' g base v zs ∧ Keeps (One g) w w') := by
  have hp : P ≤ zs.length := Rd.le h
  obtain ⟨kind, n, A, len, cap, bs⟩ := x
  have hk := hx.kind
  have hn := hx.ok.n
  have hl := hx.ok.len
  have hlo := hx.ok.long
  have hpos := hx.pos
  simp only at hk hn hl hlo hpos ⊢
  rcases (by omega : kind = 1 ∨ kind = 2 ∨ kind = 3 ∨ kind = 4) with rfl | rfl | rfl | rfl
  · have e : It.out ⟨1, n, A, len, cap, bs⟩ = varF n.toNat := by unfold It.out itemF; simp
    have hs := num_back (place := 0) (by rw [hd, e]) (hpos rfl) hn.2
    have := cread_num g base v zs ⟨P, 0, 0⟩ w h hr hb
    rw [hs] at this
    rw [e]
    refine this.mono ?_
    rintro e w' ⟨A2, c2, rfl, h1, -, -, h2, h3⟩
    exact ⟨_, _, _, _, rfl, fun _ => rfl, fun hh => by omega, h2, h3⟩
  · have e : It.out ⟨2, n, A, len, cap, bs⟩ = varF (zigF n) := by unfold It.out itemF; simp
    have hs := int_back (place := 0) (by rw [hd, e]) hn
    have := cread_int g base v zs ⟨P, 0, 0⟩ w h hr hb
    rw [hs] at this
    rw [e]
    refine this.mono ?_
    rintro e w' ⟨A2, c2, rfl, h1, -, -, h2, h3⟩
    exact ⟨_, _, _, _, rfl, fun _ => rfl, fun hh => by omega, h2, h3⟩
  · have e : It.out ⟨3, n, A, len, cap, bs⟩ = varF bs.length ++ bs := by unfold It.out itemF; simp
    have hs := byt_back (place := 0) (by rw [hd, e]) (by omega) hp
    have := cread_byt g base v zs ⟨P, 0, 0⟩ w h hr hb
    rw [hs] at this
    rw [e, List.length_append]
    refine this.mono ?_
    rintro e w' ⟨A2, c2, rfl, h1, -, -, h2, h3⟩
    exact ⟨_, _, _, _, rfl, fun hh => by omega, fun hh => ⟨h1, rfl⟩, h2, h3⟩
  · have e : It.out ⟨4, n, A, len, cap, bs⟩ = varF bs.length ++ bs := by unfold It.out itemF; simp
    have hs := byt_back (place := 0) (by rw [hd, e]) (by omega) hp
    have := cread_txt g base v zs ⟨P, 0, 0⟩ w h hr hb
    rw [hs] at this
    rw [e, List.length_append]
    refine this.mono ?_
    rintro e w' ⟨A2, c2, rfl, h1, -, -, h2, h3⟩
    exact ⟨_, _, _, _, rfl, fun hh => by omega, fun hh => ⟨h1, rfl⟩, h2, h3⟩

theorem sameitem_any (kind n n' : Int) (bs : List Int) (A : Option Addr) (la ca : Nat) (B : Option Addr) (lb cb : Nat) (w : World) (h1 : kind ≤ 2 → n = n') (h2 : 2 < kind → Nums .u8 w A bs ∧ bs.length = la) (hB : Nums .u8 w B bs) (hlb : bs.length = lb) (hr : lb ≤ 140737488351232) :
    Calls Try.prog 32 #[.agg #[.int .i64 kind, .int .i64 n, .slice A la ca], .agg #[.int .i64 kind, .int .i64 n', .slice B lb cb]] w (SameItEnd w) := by
  by_cases hk : kind ≤ 2
  · obtain rfl := h1 hk
    exact sameitem_num kind n A la ca B lb cb w hk
  · obtain ⟨a1, a2⟩ := h2 (by omega)
    exact sameitem_bytes kind n n' bs A la ca B lb cb w (by omega) a1 a2 hB hlb (by omega)
end Go.Proofs.Ytnhhmkgcgogddaa.apart
