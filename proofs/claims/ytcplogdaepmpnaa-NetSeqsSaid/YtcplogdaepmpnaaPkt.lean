/- Addresses, pairs and packets: their keys, their cells; a packet loaded and stored; rows of packets. -/
import Derived.Test.YtcplogdaepmpnaaBase
import Derived.Test.YtcplogdaepmpnaaRow
import Derived.Test.YtcplogdaepmpnaaNetMaps
namespace Go.Proofs.Ytcplogdaepmpnaa
open Go.RowKit Go.Maps Go.ChangeMaps Go.WideElems

abbrev Ad := Bool × Int
abbrev Pr := Ad × Ad
def adCells (a : Ad) : List Value := [.bool a.1, .int .i64 a.2]
def adV (a : Ad) : Value := .agg #[.bool a.1, .int .i64 a.2]
def prV (p : Pr) : Value := .agg #[.bool p.1.1, .int .i64 p.1.2, .bool p.2.1, .int .i64 p.2.2]
def adLits (a : Ad) : List Lit := [.bool a.1, .int .i64 a.2]
def prLits (p : Pr) : List Lit := [.bool p.1.1, .int .i64 p.1.2, .bool p.2.1, .int .i64 p.2.2]

theorem laidAll : laidOutB Try.prog = true := by kernel_rfl
theorem cellsAd : Try.prog.cellsOf 27 = 2 := by kernel_rfl
theorem cellsPr : Try.prog.cellsOf 73 = 4 := by kernel_rfl
theorem cellsPk : Try.prog.cellsOf 33 = 6 := by kernel_rfl
theorem cellsI : Try.prog.cellsOf 3 = 1 := by kernel_rfl
theorem cellsB : Try.prog.cellsOf 4 = 1 := by kernel_rfl
theorem lawAd : WideMaps.KeyLaw Try.prog 27 := deep_law_laid laidAll (m := 2) (by omega) (of_decide_eq_true (by kernel_rfl)) (by kernel_rfl) (by kernel_rfl)
theorem lawPr : WideMaps.KeyLaw Try.prog 73 := deep_law_laid laidAll (m := 3) (by omega) (of_decide_eq_true (by kernel_rfl)) (by kernel_rfl) (by kernel_rfl)
theorem sizeTypes : ∃ m, Try.prog.types.size = m + 2 := ⟨Try.prog.types.size - 2, by have : decide (2 ≤ Try.prog.types.size) = true := by kernel_rfl
                                                                                     have := of_decide_eq_true this; omega⟩
theorem keyTAd : Try.prog.keyType 27 = true := by kernel_rfl
theorem keyTPr : Try.prog.keyType 73 = true := by kernel_rfl

theorem litsAd (d : Nat) (a : Ad) (h : IntV a.2) : Try.prog.keyLits (d + 2) 27 [.bool a.1, .int .i64 a.2] = some (adLits a) := by
  unfold Program.keyLits
  simp only [Try.underlying27]
  rw [if_pos (by rw [cellsAd]; simp)]
  simp [List.mapM_cons, List.mapM_nil, Program.keyLits, Try.underlying4, Try.underlying3, cellsI, cellsB, adLits]
  rw [if_pos (show (Lit.int .i64 a.2).wf = true from h)]
  rfl

theorem litsPr (d : Nat) (p : Pr) (h1 : IntV p.1.2) (h2 : IntV p.2.2) : Try.prog.keyLits (d + 3) 73 [.bool p.1.1, .int .i64 p.1.2, .bool p.2.1, .int .i64 p.2.2] = some (prLits p) := by
  unfold Program.keyLits
  simp only [Try.underlying73]
  rw [if_pos (by rw [cellsPr]; simp)]
  simp [List.mapM_cons, List.mapM_nil, cellsAd]
  have e1 := litsAd d p.1 h1
  have e2 := litsAd d p.2 h2
  rw [e1, e2]
  rfl

theorem keyAd (a : Ad) (h : IntV a.2) : keyOf Try.prog 27 (adV a) = some (.string (keyBytes (adLits a))) := by
  obtain ⟨m, hm⟩ := sizeTypes
  unfold keyOf
  simp only [Try.underlying27]
  rw [if_pos (by simp [keyTAd, Value.formed, Try.underlying27, cellsAd, adV]), hm]
  show Option.map _ (Try.prog.keyLits (m + 1 + 2) 27 [.bool a.1, .int .i64 a.2]) = _
  rw [litsAd _ a h]
  rfl
theorem keyPr (p : Pr) (h1 : IntV p.1.2) (h2 : IntV p.2.2) : keyOf Try.prog 73 (prV p) = some (.string (keyBytes (prLits p))) := by
  obtain ⟨m, hm⟩ := sizeTypes
  unfold keyOf
  simp only [Try.underlying73]
  rw [if_pos (by simp [keyTPr, Value.formed, Try.underlying73, cellsPr, prV]), hm]
  show Option.map _ (Try.prog.keyLits (m + 3) 73 [.bool p.1.1, .int .i64 p.1.2, .bool p.2.1, .int .i64 p.2.2]) = _
  rw [litsPr _ p h1 h2]
  rfl

def keysA : KeyS 27 Ad where
  val := adV
  lit a := .string (keyBytes (adLits a))
  ok a := IntV a.2
  law := lawAd
  key a h := keyAd a h
  inj a b h := by
    obtain ⟨a1, a2⟩ := a
    obtain ⟨b1, b2⟩ := b
    simpa [adV] using h
def keysP : KeyS 73 Pr where
  val := prV
  lit a := .string (keyBytes (prLits a))
  ok p := IntV p.1.2 ∧ IntV p.2.2
  law := lawPr
  key a h := keyPr a h.1 h.2
  inj a b h := by
    obtain ⟨⟨a1, a2⟩, a3, a4⟩ := a
    obtain ⟨⟨b1, b2⟩, b3, b4⟩ := b
    simp [prV] at h
    simp [h]

/-! ### Packets -/
/-- A packet: from, count, to, and the slice that holds its bytes. -/
structure Pk where
  fr : Ad
  ct : Int
  to : Ad
  dv : Value
def Pk.cells (p : Pk) : List Value := [.bool p.fr.1, .int .i64 p.fr.2, .int .i64 p.ct, .bool p.to.1, .int .i64 p.to.2, p.dv]
def Pk.val (p : Pk) : Value := .agg #[.bool p.fr.1, .int .i64 p.fr.2, .int .i64 p.ct, .bool p.to.1, .int .i64 p.to.2, p.dv]
def PkAt (w : World) (b o : Nat) (p : Pk) : Prop := ∀ j v, p.cells[j]? = some v → w.cell? ⟨b, o + j, Option.none⟩ = some v
theorem cell_block {w w' : World} {b o : Nat} (hb : w'.heap[b]? = w.heap[b]?) : w'.cell? ⟨b, o, Option.none⟩ = w.cell? ⟨b, o, Option.none⟩ := by
  unfold World.cell?
  rw [hb]
theorem cell_lt {w : World} {b o : Nat} {v : Value} (h : w.cell? ⟨b, o, Option.none⟩ = some v) : b < w.heap.size := by
  unfold World.cell? at h
  cases hb : w.heap[b]? with
  | none => simp [hb] at h
  | some o => exact (Array.getElem?_eq_some_iff.1 hb).1
theorem PkAt.of_block {w w' : World} {b o : Nat} {p : Pk} (h : PkAt w b o p) (hb : w'.heap[b]? = w.heap[b]?) : PkAt w' b o p := fun j v hv => by
  rw [cell_block hb]; exact h j v hv
theorem PkAt.lt {w : World} {b o : Nat} {p : Pk} (h : PkAt w b o p) : b < w.heap.size := cell_lt (h 0 _ rfl)
theorem PkAt.keeps {S : Nat → Prop} {w w' : World} {b o : Nat} {p : Pk} (h : PkAt w b o p) (hk : Keeps S w w') (hb : ¬ S b) : PkAt w' b o p := h.of_block (hk.block b h.lt hb)
theorem PkAt.grew {w w' : World} {b o : Nat} {p : Pk} (h : PkAt w b o p) (hk : Keeps None w w') : PkAt w' b o p := h.keeps hk id
theorem Blk.pk {w : World} {g t : Nat} {p : Pk} (h : Blk w g t p.cells) : PkAt w g 0 p := fun j v hv => by
  have := h.cell j v hv
  simpa using this

theorem infoPk : (Try.prog.info? 33).map (·.size) = some 6 := by kernel_rfl
theorem infoAd : (Try.prog.info? 27).map (·.size) = some 2 := by kernel_rfl
theorem infoPr : (Try.prog.info? 73).map (·.size) = some 4 := by kernel_rfl

theorem run_loadVar_at {P : Program} (w : World) (b o : Nat) (ty : TypeId) (cs : List Value) (d : TypeDesc) (hu : P.underlying ty = some d) (hd : (match d with | .struct _ | .array _ _ => true | _ => false) = true) (hi : (P.info? ty).map (·.size) = some cs.length)
    (h : ∀ j v, cs[j]? = some v → w.cell? ⟨b, o + j, Option.none⟩ = some v) : (loadVar ty ⟨b, o, Option.none⟩).run P w = .ok (.agg cs.toArray) w := by
  have hl : (loadCells ⟨b, o, Option.none⟩ cs.length).run P w = .ok cs.toArray w :=
    run_loadCells_list (P := P) w _ cs (fun j v hv => by
      have hadd : (⟨b, o, Option.none⟩ : Addr).add j = ⟨b, o + j, Option.none⟩ := by unfold Addr.add; split <;> simp_all
      rw [hadd]
      exact h j v hv)
  cases hq : P.info? ty with
  | none => simp [hq] at hi
  | some i =>
    have hs : i.size = cs.length := by simpa [hq] using hi
    have hagg : (isAgg ty).run P w = .ok true w := by
      unfold isAgg
      rw [Sem.run_bind, run_underlying hu w]
      cases d <;> simp_all
    simp [loadVar, Sem.run_bind, hagg, sizeOf, typeInfo, hq, hs, hl]

theorem run_load_pk {w : World} {b o : Nat} {p : Pk} (h : PkAt w b o p) : (loadVar 33 ⟨b, o, Option.none⟩).run Try.prog w = .ok p.val w :=
  run_loadVar_at w b o _ p.cells _ Try.underlying33 rfl infoPk h
theorem run_load_ad {w : World} {b o : Nat} {a : Ad} (h1 : w.cell? ⟨b, o, Option.none⟩ = some (.bool a.1)) (h2 : w.cell? ⟨b, o + 1, Option.none⟩ = some (.int .i64 a.2)) : (loadVar 27 ⟨b, o, Option.none⟩).run Try.prog w = .ok (adV a) w :=
  run_loadVar_at w b o _ (adCells a) _ Try.underlying27 rfl infoAd (fun j v hv => by
    match j, hv with
    | 0, hv => simp [adCells] at hv; subst hv; exact h1
    | 1, hv => simp [adCells] at hv; subst hv; exact h2
    | j + 2, hv => simp [adCells] at hv)
section
variable {ops : Array Oper} {rest : List Oper} {o : Oper} {a : Act} {w : World} {Q : Exit → Act → World → Prop}
/-- A packet is loaded. -/
theorem wpList_load_pk (hgd : o.guard = Option.none) (x : Operand) (ho : o.op = .load 33 x) (b j : Nat) (p : Pk) (hx : a.eval x = .pointer (some ⟨b, j, Option.none⟩)) (hp : PkAt w b j p)
    (h : wpList Try.prog ops Q rest (a.put o.dst p.val) w) : wpList Try.prog ops Q (o :: rest) a w := by
  refine wpList_plain hgd fun K hK => ?_
  unfold Oper.wp execOp
  simp only [ho, hx, Instr.loadAt, Instr.sureAddr, Sem.run_bind, Sem.run_pure, Result.andThen_ok, run_load_pk hp]
  exact hK _ _ h
/-- A packet is stored into a block of its own. -/
theorem wpList_store_pk (hgd : o.guard = Option.none) (x y : Operand) (ho : o.op = .store 33 x y) (g : Nat) (p : Pk) (hx : a.eval x = .pointer (some ⟨g, 0, Option.none⟩)) (hy : a.eval y = p.val) (hd : p.dv.oneCell' = true)
    (old : List Value) (hg : Blk w g 33 old) (hl : old.length = 6)
    (h : ∀ w', Blk w' g 33 p.cells → Keeps (One g) w w' → wpList Try.prog ops Q rest (a.put o.dst undef) w') : wpList Try.prog ops Q (o :: rest) a w := by
  refine wpList_store_row hgd _ x y ho g p.cells.toArray hx (hy.trans rfl) _ _ hg.raw infoPk (by simp [hl, Pk.cells]) ?_ (h _ (hg.setRow _) ((Keeps.refl _ _).setRow _ _ (fun _ => rfl)))
  simp [Pk.cells, hd]
  simp [Value.oneCell']
end
end Go.Proofs.Ytcplogdaepmpnaa
