/- Part 17 of the proof: Ljname Ljhash Ljalone Svnum Ljturnp. -/
import Derived.Deep.AppendLies
import Derived.Maps.GroupsBeside
import Derived.StringKeys
import Derived.Maps.OwnSet
import Derived.Test.YtcmfdbjdbbpomaaDoorJla16
namespace Go.Proofs.YtcmfdbjdbbpomaaDoor.B
open Go Go.RowKit Go.Shelf
set_option maxRecDepth 1000000
set_option linter.unusedVariables false
noncomputable section
def numsT (x : Val) : Nat → List UInt8
  | 0 => []
  | 1 => Lib.itoa x.kind ++ [32]
  | 2 => Lib.itoa x.kind ++ 32 :: (Lib.itoa x.n ++ [32])
  | _ => Lib.itoa x.kind ++ 32 :: (Lib.itoa x.n ++ 32 :: (Lib.itoa (x.s.size : Int) ++ [32]))
theorem numsT_val (x : Val) : numsT x 3 ++ x.s.data.toList = valT x := by
  unfold numsT valT
  simp
structure RNo (w : World) (r : List Val) (i : Nat) (wr : World) : Prop where
  ext : Ext w wr
  bld : Lib.IsBuilderF 59 5 w.heap.size w.heap.size (Lib.byteCells (keyT (r.take i))) wr
structure RNi (w : World) (vb : Nat) (x : Val) (T : List UInt8) (wr : World) : Prop where
  ext : Ext w wr
  bld : Lib.IsBuilderF 59 5 w.heap.size w.heap.size (Lib.byteCells T) wr
  cell : wr.heap[vb]? = some (.cells #[.int .i64 x.kind, .int .i64 x.n, .string x.s] 39 (0, 0))
theorem isB_kept {B b : Nat} {bs : List Value} {p : Value} {w : World} (h : Lib.BuilderAtF 59 5 B b p bs w) (hp : p = .pointer (some ⟨b, 0, none⟩)) : Lib.IsBuilderF 59 5 B b bs w := by
  subst hp; exact .inr h
theorem isB_lt {B b : Nat} {bs : List Value} {w : World} (h : Lib.IsBuilderF 59 5 B b bs w) : b < w.heap.size := by
  have : ∀ p, Lib.BuilderAtF 59 5 B b p bs w → b < w.heap.size := fun p ⟨_, v, h2, _⟩ => (Array.getElem?_eq_some_iff.1 h2).1
  exact h.elim (this _) (this _)
theorem RNi.step {w wr W1 W2 W3 : World} {vb : Nat} {x : Val} {T : List UInt8} (h : RNi w vb x T wr) (t : ByteArray) (hx1 : Ext wr W1) (h2 : Below w.heap.size W1 W2) (k2 : Lib.OthersKept 5 (some w.heap.size) W1 W2) (h3 : Below w.heap.size W2 W3) (k3 : Lib.OthersKept 5 (some w.heap.size) W2 W3)
    (b3 : Lib.BuilderAtF 59 5 w.heap.size w.heap.size (.pointer (some ⟨w.heap.size, 0, none⟩)) (Lib.byteCells T ++ Lib.strCells t ++ [.int .u8 32]) W3) (hvb : w.heap.size < vb) (l : List UInt8) (hl : t.data.toList = l) :
    RNi w vb x (T ++ (l ++ [32])) W3 := by
  have hlt : vb < wr.heap.size := (Array.getElem?_eq_some_iff.1 h.cell).1
  have c1 : W1.heap[vb]? = some (.cells #[.int .i64 x.kind, .int .i64 x.n, .string x.s] 39 (0, 0)) := (hx1.block hlt).trans h.cell
  have c2 := k2 _ _ c1 (by simp; omega) (fun c fz e2 => by cases e2)
  have c3 := k3 _ _ c2 (by simp; omega) (fun c fz e2 => by cases e2)
  refine ⟨Below.trans (Below.trans (h.ext.trans hx1) h2) h3, ?_, c3⟩
  refine isB_kept ?_ rfl
  have e : Lib.byteCells (T ++ (l ++ [32])) = Lib.byteCells T ++ Lib.strCells t ++ [.int .u8 32] := by
    rw [strCells_byte t l hl]
    simp [Lib.byteCells]
  rw [e]; exact b3
theorem RNi.cells {w wr : World} {vb : Nat} {x : Val} {T : List UInt8} (h : RNi w vb x T wr) : wr.cell? ⟨vb, 0, none⟩ = some (.int .i64 x.kind) ∧ wr.cell? ⟨vb, 1, none⟩ = some (.int .i64 x.n) ∧ wr.cell? ⟨vb, 2, none⟩ = some (.string x.s) := by
  have := h.cell
  refine ⟨?_, ?_, ?_⟩ <;> simp [World.cell?, this]
theorem nums_len {r : List Val} {i : Nat} {x : Val} (h : r[i]? = some x) (j : Nat) : (keyT (r.take i) ++ numsT x j).length + 22 + x.s.size ≤ (keyT r).length + 200 := by
  obtain ⟨_, k2⟩ := keyT_part h
  have h1 : (valT x).length = (numsT x 3).length + x.s.size := by rw [← numsT_val, List.length_append]; rfl
  have h2 : (numsT x j).length ≤ (numsT x 3).length := by
    match j with
    | 0 => simp [numsT]
    | 1 => simp [numsT]
    | 2 => simp [numsT]
    | _ + 3 => exact Nat.le_refl _
  rw [List.length_append]
  omega
set_option maxHeartbeats 8000000 in
theorem name_walk (r : List Val) (a : Option Addr) (b off cap : Nat) (w : World) (hld : Laid w) (hlen : r.length ≤ 1000000000) (htx : (keyT r).length ≤ 1000000000000)
    (ha : r ≠ [] → a = some ⟨b, off, none⟩ ∧ r.length ≤ cap)
    (hcell : ∀ i x, r[i]? = some x → (w.cell? ⟨b, off + i * 3, none⟩ = some (.int .i64 x.kind) ∧ w.cell? ⟨b, off + i * 3 + 1, none⟩ = some (.int .i64 x.n) ∧ w.cell? ⟨b, off + i * 3 + 2, none⟩ = some (.string x.s)) ∧
      (-9223372036854775808 ≤ x.kind ∧ x.kind ≤ 9223372036854775807) ∧ (-9223372036854775808 ≤ x.n ∧ x.n ≤ 9223372036854775807) ∧ x.s.size ≤ maxLen) :
    Calls Tryd.prog 19 #[.slice a r.length cap] w fun e w' => e = .returned (.string ⟨(keyT r).toArray⟩) ∧ Ext w w' := by
  have mixed : Tryd.prog.follows .mixedOrders = true := by kernel_rfl
  go_enter Tryd.func19, Tryd.ntmps19
  go_wp2
  go_loopw [10] (fun s10 wr => ∃ (i : Nat), i ≤ r.length ∧ s10 = .int .i64 i ∧ RNo w r i wr) (fun s10 _ => r.length - (intOf s10).toNat)
  case atStart =>
    have h1 : ∀ (h : Array Obj) (o : Obj), (h.push o)[h.size]? = some o := fun h o => by simp
    exact ⟨0, Nat.zero_le _, rfl, ⟨(Ext.refl w).alloc _, .inl ⟨Nat.le_refl _, .slice none 0 0, h1 w.heap _, World.ownsRowF_nil _ _ _ _, by simp [Value.ownBlock]⟩⟩⟩
  case round =>
    obtain ⟨i, hi, rfl, hr⟩ := hrel
    by_cases hlt : i < r.length
    · obtain ⟨x, hx⟩ : ∃ x, r[i]? = some x := ⟨_, List.getElem?_eq_getElem hlt⟩
      obtain ⟨rfl, hcap⟩ := ha (fun e => by rw [e] at hlt; simp at hlt)
      obtain ⟨⟨c0, c1, c2⟩, b0, b1, b2⟩ := hcell i x hx
      have d0 := hr.ext.keeps c0
      have d1 := hr.ext.keeps c1
      have d2 := hr.ext.keeps c2
      have hsz1 : w.heap.size < wr.heap.size := isB_lt hr.bld
      obtain ⟨kt1, kt2⟩ := keyT_part hx
      have hnl := nums_len hx
      have KT := Lib.hid kt1
      have NL := Lib.hid hnl
      clear kt1 hnl
      have HR := Lib.hid hr
      clear hr c0 c1 c2
      have k0 : (i : Int) < (r.length : Int) := by omega
      have b3 : -9223372036854775808 ≤ ((x.s.size : Nat) : Int) ∧ ((x.s.size : Nat) : Int) ≤ 9223372036854775807 := by unfold maxLen at b2; omega
      go_wp2_with fail
      have q0 : (wr.alloc (Obj.cells #[Value.int IntKind.i64 x.kind, Value.int IntKind.i64 x.n, Value.string x.s] 39)).heap[wr.heap.size]? = some (Obj.cells #[Value.int IntKind.i64 x.kind, Value.int IntKind.i64 x.n, Value.string x.s] 39 (0, 0)) := by
        have h1 : ∀ (h : Array Obj) (o : Obj), (h.push o)[h.size]? = some o := fun h o => by simp
        exact h1 _ _
      have R0 : RNi w wr.heap.size x (keyT (r.take i) ++ numsT x 0) (wr.alloc (Obj.cells #[Value.int IntKind.i64 x.kind, Value.int IntKind.i64 x.n, Value.string x.s] 39)) := ⟨HR.out.ext.alloc _, by
        have := isB_ext HR.out.bld ((Ext.refl wr).alloc (Obj.cells #[Value.int IntKind.i64 x.kind, Value.int IntKind.i64 x.n, Value.string x.s] 39))
        simpa [numsT] using this, q0⟩
      obtain ⟨t1, p1, l1, I1⟩ := itoa_text x.kind b0
      obtain ⟨t2, p2, l2, I2⟩ := itoa_text x.n b1
      obtain ⟨t3, p3, l3, I3⟩ := itoa_text x.s.size b3
      have P1 := Lib.hid p1
      have P2 := Lib.hid p2
      have P3 := Lib.hid p3
      clear p1 p2 p3 q0 d0 d1 d2
      generalize wr.heap.size = vb at R0 hsz1
      generalize wr.alloc (Obj.cells #[Value.int IntKind.i64 x.kind, Value.int IntKind.i64 x.n, Value.string x.s] 39) = W0 at R0 ⊢
      go_loopw [22] (fun s22 wi => ∃ (j : Nat), j ≤ 3 ∧ s22 = .int .i64 j ∧ RNi w vb x (keyT (r.take i) ++ numsT x j) wi) (fun s22 _ => 3 - (intOf s22).toNat)
      case atStart => exact ⟨0, by omega, rfl, R0⟩
      case round =>
        obtain ⟨j, hj, rfl, hri⟩ := hrel
        have HI := Lib.hid hri
        clear hri
        by_cases hj3 : j < 3
        · obtain rfl | rfl | rfl : j = 0 ∨ j = 1 ∨ j = 2 := by omega
          · have hb1 : (Lib.byteCells (keyT (r.take i) ++ numsT x 0)).length + t1.size ≤ 140737488355328 := by rw [Lib.byteCells_length]; have := NL.out 0; omega
            have hb2 : (Lib.byteCells (keyT (r.take i) ++ numsT x 0) ++ Lib.strCells t1).length + 1 ≤ 140737488355328 := by
              rw [List.length_append, Lib.byteCells_length]
              have h9 : (Lib.strCells t1).length = t1.size := by unfold Lib.strCells; simp
              have := NL.out 0
              omega
            simp only [show ((0 : Nat) : Int) = (0 : Int) from rfl]
            have ix : ∀ w', (Instr.index 60 (.agg #[Value.int IntKind.i64 x.kind, Value.int IntKind.i64 x.n, Value.int IntKind.i64 (x.s.size : Int)]) (.int .i64 0)).run Tryd.prog w' = .ok (.int .i64 x.kind) w' := fun _ => by kernel_rfl
            go_wp2_with (first
              | (go_at_call_of 32 (Value.int IntKind.i64 x.kind); refine (I1 _ (hld.ext HI.out.ext)).mono ?_; rintro e W1 ⟨rfl, hx1⟩)
              | (go_at_call 31; refine (writeString w.heap.size w.heap.size _ t1 _ (isB_ext HI.out.bld hx1) hb1 (HI.out.ext.trans hx1).size).mono ?_; rintro e W2 ⟨rfl, hb4, hx2, hk2⟩)
              | (go_at_call 33; refine (writeByte w.heap.size w.heap.size _ 32 _ (isB_kept hb4 rfl) hb2 (Below.trans (HI.out.ext.trans hx1) hx2).size).mono ?_; rintro e W3 ⟨rfl, hb5, hx3, hk3⟩))
            go_roundw
            case rel =>
              refine ⟨1, by omega, by go_num, ?_⟩
              have := HI.out.step t1 hx1 hx2 hk2 hx3 hk3 hb5 hsz1 _ P1.out
              rw [List.append_assoc] at this
              have e9 : numsT x 0 ++ (Lib.itoa x.kind ++ [32]) = numsT x 1 := by simp [numsT]
              rw [e9] at this
              exact this
            case measure => simp [intOf]
          · have hb1 : (Lib.byteCells (keyT (r.take i) ++ numsT x 1)).length + t2.size ≤ 140737488355328 := by rw [Lib.byteCells_length]; have := NL.out 1; omega
            have hb2 : (Lib.byteCells (keyT (r.take i) ++ numsT x 1) ++ Lib.strCells t2).length + 1 ≤ 140737488355328 := by
              rw [List.length_append, Lib.byteCells_length]
              have h9 : (Lib.strCells t2).length = t2.size := by unfold Lib.strCells; simp
              have := NL.out 1
              omega
            simp only [show ((1 : Nat) : Int) = (1 : Int) from rfl]
            have ix : ∀ w', (Instr.index 60 (.agg #[Value.int IntKind.i64 x.kind, Value.int IntKind.i64 x.n, Value.int IntKind.i64 (x.s.size : Int)]) (.int .i64 1)).run Tryd.prog w' = .ok (.int .i64 x.n) w' := fun _ => by kernel_rfl
            go_wp2_with (first
              | (go_at_call_of 32 (Value.int IntKind.i64 x.n); refine (I2 _ (hld.ext HI.out.ext)).mono ?_; rintro e W1 ⟨rfl, hx1⟩)
              | (go_at_call 31; refine (writeString w.heap.size w.heap.size _ t2 _ (isB_ext HI.out.bld hx1) hb1 (HI.out.ext.trans hx1).size).mono ?_; rintro e W2 ⟨rfl, hb4, hx2, hk2⟩)
              | (go_at_call 33; refine (writeByte w.heap.size w.heap.size _ 32 _ (isB_kept hb4 rfl) hb2 (Below.trans (HI.out.ext.trans hx1) hx2).size).mono ?_; rintro e W3 ⟨rfl, hb5, hx3, hk3⟩))
            go_roundw
            case rel =>
              refine ⟨2, by omega, by go_num, ?_⟩
              have := HI.out.step t2 hx1 hx2 hk2 hx3 hk3 hb5 hsz1 _ P2.out
              rw [List.append_assoc] at this
              have e9 : numsT x 1 ++ (Lib.itoa x.n ++ [32]) = numsT x 2 := by simp [numsT]
              rw [e9] at this
              exact this
            case measure => simp [intOf]
          · have hb1 : (Lib.byteCells (keyT (r.take i) ++ numsT x 2)).length + t3.size ≤ 140737488355328 := by rw [Lib.byteCells_length]; have := NL.out 2; omega
            have hb2 : (Lib.byteCells (keyT (r.take i) ++ numsT x 2) ++ Lib.strCells t3).length + 1 ≤ 140737488355328 := by
              rw [List.length_append, Lib.byteCells_length]
              have h9 : (Lib.strCells t3).length = t3.size := by unfold Lib.strCells; simp
              have := NL.out 2
              omega
            simp only [show ((2 : Nat) : Int) = (2 : Int) from rfl]
            have ix : ∀ w', (Instr.index 60 (.agg #[Value.int IntKind.i64 x.kind, Value.int IntKind.i64 x.n, Value.int IntKind.i64 (x.s.size : Int)]) (.int .i64 2)).run Tryd.prog w' = .ok (.int .i64 (x.s.size : Int)) w' := fun _ => by kernel_rfl
            go_wp2_with (first
              | (go_at_call_of 32 (Value.int IntKind.i64 (x.s.size : Int)); refine (I3 _ (hld.ext HI.out.ext)).mono ?_; rintro e W1 ⟨rfl, hx1⟩)
              | (go_at_call 31; refine (writeString w.heap.size w.heap.size _ t3 _ (isB_ext HI.out.bld hx1) hb1 (HI.out.ext.trans hx1).size).mono ?_; rintro e W2 ⟨rfl, hb4, hx2, hk2⟩)
              | (go_at_call 33; refine (writeByte w.heap.size w.heap.size _ 32 _ (isB_kept hb4 rfl) hb2 (Below.trans (HI.out.ext.trans hx1) hx2).size).mono ?_; rintro e W3 ⟨rfl, hb5, hx3, hk3⟩))
            go_roundw
            case rel =>
              refine ⟨3, by omega, by go_num, ?_⟩
              have := HI.out.step t3 hx1 hx2 hk2 hx3 hk3 hb5 hsz1 _ P3.out
              rw [List.append_assoc] at this
              have e9 : numsT x 2 ++ (Lib.itoa (x.s.size : Int) ++ [32]) = numsT x 3 := by simp [numsT]
              rw [e9] at this
              exact this
            case measure => simp [intOf]
        · obtain rfl : j = 3 := by omega
          have hb1 : (Lib.byteCells (keyT (r.take i) ++ numsT x 3)).length + x.s.size ≤ 140737488355328 := by rw [Lib.byteCells_length]; have := NL.out 3; omega
          obtain ⟨f0, f1, f2⟩ := HI.out.cells
          go_wp2_with (first
            | (go_at_call 31; refine (writeString w.heap.size w.heap.size _ x.s _ HI.out.bld hb1 HI.out.ext.size).mono ?_; rintro e W2 ⟨rfl, hb4, hx2, hk2⟩))
          go_roundw
          case rel =>
            refine ⟨i + 1, by omega, by go_num, ⟨Below.trans HI.out.ext hx2, isB_kept ?_ rfl⟩⟩
            rw [KT.out, ← numsT_val, ← List.append_assoc, show Lib.byteCells (keyT (r.take i) ++ numsT x 3 ++ x.s.data.toList) = Lib.byteCells (keyT (r.take i) ++ numsT x 3) ++ Lib.byteCells x.s.data.toList by simp [Lib.byteCells], ← strCells_byte x.s _ rfl]
            exact hb4
          case measure => simp [intOf]; omega
    · have hie : i = r.length := by omega
      subst hie
      have hb := hr.bld
      rw [List.take_length] at hb
      have hxs := hr.ext.size
      have HR := Lib.hid hr
      have HB := Lib.hid hb
      clear hr hb
      have cS := Tryd.Builder_String_any_k w.heap.size w.heap.size (keyT r) _ HB.out hxs
      go_wp2_with (first
        | (go_at_call 34; refine cS.mono ?_; rintro e W5 ⟨rfl, hb5, hx5, hk5⟩; have X5 := Lib.hid hx5; clear hx5 hb5 hk5))
      go_ret
      exact ⟨rfl, Below.trans HR.out.ext X5.out⟩
end
end Go.Proofs.YtcmfdbjdbbpomaaDoor.B
namespace Go.Proofs.YtcmfdbjdbbpomaaDoor.B
open Go Go.RowKit Go.Shelf Go.Maps
set_option maxRecDepth 1000000
set_option linter.unusedVariables false
noncomputable section
theorem call_bool {f : FuncId} {F : FnC Un} (hok : FnOK f F) {args : List (D Un)} {ob : List Prop} {b : Bool} (hF : F args = some (ob, [.c (.s (.bool b))], [])) (hob : ∀ p ∈ ob, p) {w : World} {St : Nat → Nat → Prop} {vs : List Value} (hbd : ∀ b o, St b o → b < w.heap.size) (hrel : All2 (DRel Tryd.prog En St w) vs args) (hld : Laid w) :
    Calls Tryd.prog f vs.toArray w fun e w' => e = .returned (.bool b) ∧ Ext w w' := by
  refine ((hok args ob _ [] hF hob).1 w St vs hbd hrel hld).mono ?_
  rintro e w' ⟨v, rfl, hx, g, -, -, -, hr, -⟩
  exact ⟨by rw [show v = .bool b from hr.1], hx⟩
theorem whole_calls {St : Nat → Nat → Prop} {w : World} {v : Value} {r : List Val} (hbd : ∀ b o, St b o → b < w.heap.size) (h : VRel En St w v (.dat (U := Un) Ty.val r)) (hld : Laid w) :
    Calls Tryd.prog 18 #[v] w fun e w' => e = .returned (.bool (wholeR r)) ∧ Ext w w' :=
  call_bool ok_joiner_whole (args := [.d (.v (.dat (U := Un) Ty.val r))]) (b := joiner_whole r) (by unfold F_joiner_whole; simp only [dL_mk]; rfl) (by simp) (vs := [v]) hbd ⟨h, trivial⟩ hld
theorem name_calls {St : Nat → Nat → Prop} {w : World} {v : Value} {r : List Val} (h : VRel En St w v (.dat (U := Un) Ty.val r)) (hl : r.length ≤ 1000000000) (ht : (keyT r).length ≤ 1000000000000) (hld : Laid w) :
    Calls Tryd.prog 19 #[v] w fun e w' => e = .returned (.string ⟨(keyT r).toArray⟩) ∧ Ext w w' := by
  obtain ⟨a, b, off, cap, rfl, ha, hc⟩ := vals_cells h
  exact name_walk r a b off cap w hld hl ht ha hc
def placesT (r : List (List Val)) (k : Nat) (T : List UInt8) : List Int := ((List.range k).filter fun j : Nat => wholeR (r.getD j []) && decide (keyT (r.getD j []) = T)).map fun j : Nat => (j : Int)
def datP (zs : List Int) : DataW Unit := if zs = [] then .nil else .slice (ChangeShapes.lits .i64 zs) []
theorem placesT_succ (r : List (List Val)) (k : Nat) (T : List UInt8) : placesT r (k + 1) T = if (wholeR (r.getD k []) && decide (keyT (r.getD k []) = T)) = true then placesT r k T ++ [(k : Int)] else placesT r k T := by
  unfold placesT
  rw [List.range_succ, List.filter_append, List.map_append, List.filter_cons, List.filter_nil]
  split <;> simp
theorem lits_inj {a b : List Int} (h : (ChangeShapes.lits .i64 a : List (DataW Unit)) = ChangeShapes.lits .i64 b) : a = b := by
  unfold ChangeShapes.lits at h
  exact (List.map_inj_right (fun x y e => by simpa using e)).1 h
theorem places_eq {w : World} {base : Nat} {e : TypeId} {v : Value} {zs ps : List Int} {D : DataW Unit} {kl : Lit} (hoi : w.ownsInts base e .i64 v zs) (hat : D.atKey kl .nil = rowDatum .i64 v zs) (ht : D.atKey kl .nil = datP ps) : zs = ps := by
  have h := hat.symm.trans ht
  unfold datP at h
  rcases hoi.datum (H := Unit) with ⟨e1, e2⟩ | e1
  · rw [e1] at h
    split at h
    · rename_i hp; rw [e2, hp]
    · simp at h
  · rw [e1] at h
    split at h
    · simp at h
    · exact lits_inj (by simp at h; exact h)
theorem slaw : Keyed Tryd.prog 9 := string_keyed Tryd.underlying9
theorem skey (s : List UInt8) (h : s.length ≤ 1000000000000) : keyOf Tryd.prog 9 (.string ⟨s.toArray⟩) = some (.string s) := by
  have hz : (⟨s.toArray⟩ : ByteArray).size ≤ maxLen := by show s.toArray.size ≤ maxLen; unfold maxLen; simp; omega
  have := Go.WideMaps.keyOf_string_mk (s := ⟨s.toArray⟩) Tryd.underlying9 hz
  rw [this]
theorem zeroS (w : World) : (zeroValue 29).run Tryd.prog w = .ok (.slice none 0 0) w := by kernel_rfl
structure RH (w : World) (r : List (List Val)) (k : Nat) (D : DataW Unit) (wr : World) : Prop where
  ext : Ext w wr
  own : wr.ownsGroups Tryd.prog 9 (w.heap.size + 1) 3 .i64 w.heap.size k D
  is : IsMap D
  tie : ∀ T : List UInt8, D.atKey (.string T) .nil = datP (placesT r k T)
  hs : w.heap.size + 1 ≤ wr.heap.size
theorem own_form {w : World} {base : Nat} {e : TypeId} {z : Nat} {v : Value} {n : Nat} {xs : List Value} (h : w.ownsRow base e z v n xs) : ∃ a c, v = .slice a n c ∧ (0 < n → ∃ g, a = some ⟨g, 0, none⟩ ∧ n ≤ c) := by
  obtain ⟨_, ⟨rfl, rfl⟩ | ⟨g, cap, cur, rfl, _, _, hc, _⟩⟩ := h
  · exact ⟨_, _, rfl, fun h => absurd h (Nat.lt_irrefl _)⟩
  · exact ⟨_, _, rfl, fun _ => ⟨g, rfl, hc⟩⟩
theorem cell_two_new (w : World) (x y : Value) (t : TypeId) : ∀ j u, [x, y][j]? = some u → (w.alloc (.cells #[x, y] t)).cell? ((⟨w.heap.size, 0, none⟩ : Addr).add j) = some u := by
  intro j u h
  have e : ((⟨w.heap.size, 0, none⟩ : Addr).add j) = ⟨w.heap.size, j, none⟩ := by unfold Addr.add; split <;> simp_all
  rw [e]
  exact cell_last rfl _ _ _ _ (by simpa using h)
theorem groups_mono {w : World} {k : TypeId} {base : Nat} {e : TypeId} {q : IntKind} {b n m : Nat} {D : DataW Unit} (h : w.ownsGroups Tryd.prog k base e q b n D) (hn : n ≤ m) : w.ownsGroups Tryd.prog k base e q b m D := by
  obtain ⟨es, clock, hb, F, hs, e, hbb, hlen, hap⟩ := h
  exact ⟨es, clock, hb, F, Nat.le_trans hs hn, e, hbb, fun x hx zs ho => Nat.le_trans (hlen x hx zs ho) hn, hap⟩
theorem own_base {w : World} {base base' : Nat} {e : TypeId} {z : Nat} {v : Value} {n : Nat} {xs : List Value} (h : w.ownsRow base e z v n xs) (hb : base' ≤ base) : w.ownsRow base' e z v n xs := by
  obtain ⟨h1, h2 | ⟨g, cap, cur, e, h3, h4⟩⟩ := h
  · exact ⟨h1, .inl h2⟩
  · exact ⟨h1, .inr ⟨g, cap, cur, e, by omega, h4⟩⟩
structure RO (W1 : World) (o : List (Int × Int)) (v : Value) (wr : World) : Prop where
  ext : Ext W1 wr
  row : wr.ownsRow W1.heap.size 32 2 v o.length (o.flatMap prV)
theorem prV_snoc (o : List (Int × Int)) (x : Int × Int) : (o ++ [x]).flatMap prV = o.flatMap prV ++ [.int .i64 x.1, .int .i64 x.2] := by rw [List.flatMap_append]; rfl
def hRow (l r : List (List Val)) (i : Nat) : List (Int × Int) := if wholeR (l.getD i []) = true then (placesT r r.length (keyT (l.getD i []))).map fun y => ((i : Int), y) else []
theorem hRow_eq (l r : List (List Val)) (i : Nat) : hRow l r i = jRow l r i := by
  unfold hRow jRow placesT meetR
  cases hw : wholeR (l.getD i []) with
  | false => simp
  | true =>
    rw [if_pos rfl, List.map_map]
    congr 1
    apply List.filter_congr
    intro k _
    by_cases e : l.getD i [] = r.getD k []
    · rw [← e, hw]; simp
    · rw [decide_eq_false e]
      have : ¬ keyT (r.getD k []) = keyT (l.getD i []) := fun h => e (keyT_inj h).symm
      rw [decide_eq_false this]; simp
theorem hFlat_len (l r : List (List Val)) : ∀ n, ((List.range n).flatMap (hRow l r)).length ≤ n * r.length := fun n => by
  have : (fun i => hRow l r i) = jRow l r := funext fun i => hRow_eq l r i
  have e : (List.range n).flatMap (hRow l r) = (List.range n).flatMap (jRow l r) := by rw [← this]
  rw [e]; exact jPart_len l r n
theorem Ext.shuns {W wr : World} (h : Ext W wr) {b : Nat} {No : Nat → Prop} (hs : W.Shuns b No) (hb : b < W.heap.size) : wr.Shuns b No := hs.kept (grown_of_ext h) hb (by simp)
set_option maxHeartbeats 8000000 in
theorem hash_walk (l r : List (List Val)) (la ra : Option Addr) (lb loff lcap rb roff rcap : Nat) (lkv rkv : Nat → Value) (w : World) (hB : jBound l r) (hokl : keysOK l) (hokr : keysOK r)
    (hla : l ≠ [] → la = some ⟨lb, loff, none⟩ ∧ l.length ≤ lcap) (hra : r ≠ [] → ra = some ⟨rb, roff, none⟩ ∧ r.length ≤ rcap)
    (hlc : ∀ i, i < l.length → w.cell? ⟨lb, loff + i, none⟩ = some (lkv i)) (hrc : ∀ i, i < r.length → w.cell? ⟨rb, roff + i, none⟩ = some (rkv i))
    (hwl : ∀ i W, Ext w W → i < l.length → Calls Tryd.prog 18 #[lkv i] W fun e W' => e = .returned (.bool (wholeR (l.getD i []))) ∧ Ext W W')
    (hwr : ∀ i W, Ext w W → i < r.length → Calls Tryd.prog 18 #[rkv i] W fun e W' => e = .returned (.bool (wholeR (r.getD i []))) ∧ Ext W W')
    (hnl : ∀ i W, Ext w W → i < l.length → Calls Tryd.prog 19 #[lkv i] W fun e W' => e = .returned (.string ⟨(keyT (l.getD i [])).toArray⟩) ∧ Ext W W')
    (hnr : ∀ i W, Ext w W → i < r.length → Calls Tryd.prog 19 #[rkv i] W fun e W' => e = .returned (.string ⟨(keyT (r.getD i [])).toArray⟩) ∧ Ext W W') :
    Calls Tryd.prog 10 #[.slice la l.length lcap, .slice ra r.length rcap] w fun e w' => ∃ v, e = .returned v ∧ Ext w w' ∧ w'.ownsRow w.heap.size 32 2 v (jPairs l r).length ((jPairs l r).flatMap prV) := by
  have mixed : Tryd.prog.follows .mixedOrders = true := by kernel_rfl
  have hmm := @run_makeMap Tryd.prog
  obtain ⟨hB1, hB2⟩ := hB
  obtain ⟨bytes, iI, zI, hby, hbp, _, und, hi0, hi1, hi2, hi3, hi4⟩ := slOf (t := 29) (e := 3) (τ := .int) (by kernel_rfl)
  obtain ⟨bP, iP, zP, hbP, _, _, undP, ho0, ho1, ho2, ho3, ho4⟩ := slOf (t := 24) (e := 32) (τ := .pair) (by kernel_rfl)
  have HWL := Lib.hid hwl
  have HWR := Lib.hid hwr
  have HNL := Lib.hid hnl
  have HNR := Lib.hid hnr
  have HLC := Lib.hid hlc
  have HRC := Lib.hid hrc
  have HLA := Lib.hid hla
  have HRA := Lib.hid hra
  clear hwl hwr hnl hnr hlc hrc hla hra
  go_enter Tryd.func10, Tryd.ntmps10
  go_wp2
  go_loopw [15] (fun s15 wr => ∃ (k : Nat) (D : DataW Unit), k ≤ r.length ∧ s15 = .int .i64 k ∧ RH w r k D wr) (fun s15 _ => r.length - (intOf s15).toNat)
  case atStart => exact ⟨0, .map [], Nat.zero_le _, rfl, ⟨(Ext.refl w).alloc _, World.ownsGroups_made _ _ _ _ _, isMap_empty, fun T => rfl, by simp⟩⟩
  case round =>
    obtain ⟨k, D, hk, rfl, hr⟩ := hrel
    by_cases hlt : k < r.length
    · obtain ⟨rfl, hcap⟩ := HRA.out (fun e => by rw [e] at hlt; simp at hlt)
      have d0 := hr.ext.keeps (HRC.out k hlt)
      have k0 : (k : Int) < (r.length : Int) := by omega
      have hxm : r.getD k [] ∈ r := by rw [List.getD_eq_getElem?_getD, List.getElem?_eq_getElem hlt]; exact List.getElem_mem _
      obtain ⟨ok1, ok2⟩ := hokr _ hxm
      have hW := HWR.out k _ hr.ext hlt
      have HR := Lib.hid hr
      clear hr
      by_cases hwh : wholeR (r.getD k []) = true
      · rw [hwh] at hW
        have HT := Lib.hid (placesT_succ r k)
        obtain ⟨T0, hT0⟩ : ∃ T0, T0 = keyT (r.getD k []) := ⟨_, rfl⟩
        rw [← hT0] at ok2
        have HK := Lib.hid (skey T0 ok2)
        have HN : ∀ W, Ext w W → Calls Tryd.prog 19 #[rkv k] W fun e W' => e = .returned (.string ⟨T0.toArray⟩) ∧ Ext W W' := fun W h => by rw [hT0]; exact HNR.out k W h hlt
        have HN := Lib.hid HN
        have HT0 := Lib.hid hT0
        clear hT0
        go_wp2_with (first
          | (go_at_call 18; refine hW.mono ?_; rintro e W1 ⟨rfl, hx1⟩; have X1 := Lib.hid hx1; clear hx1; have d1 := X1.out.keeps d0)
          | (go_at_call 19; refine (HN.out _ (HR.out.ext.trans X1.out)).mono ?_; rintro e W2 ⟨rfl, hx2⟩; have X2 := Lib.hid (X1.out.trans hx2); have MO := Lib.hid (HR.out.own.kept (grown_of_ext X2.out) (by simp) (fun _ _ _ _ _ => Classical.em _)); clear hx2)
          | (at_lookup; refine wpList_lookup_groups _ rfl _ _ 42 rfl 9 29 3 .i64 slaw Tryd.underlying42 (zeroS _) (w.heap.size + 1) w.heap.size k D rfl MO.out (by unfold maxLen; omega) _ _ rfl HK.out ?_; intro v zs hat hoi hzl hback)
          | (at_builtin; refine wpList_append_own_at _ rfl _ _ 29 rfl (w.heap.size + 1) 3 iI zI 1 bytes und hi0 hi3 hi1 hi2 hi4 (by decide) _ _ _ rfl (hoi.1.alloc _) ⟨W2.heap.size, 0, none⟩ 1 1 [.int .i64 k] rfl rfl (cell_one_new _ _ _) (ints_oneCell .i64 [(k : Int)]) (by unfold maxLen; omega) (Nat.le_trans (Nat.mul_le_mul (show zs.length + 1 ≤ 1000001 by omega) hby) (by decide)) (by have h1 := X2.out.size; have h2 := HR.out.hs; simp; omega) ?_; intro v' w4 hown4 hgrow4 hnil4 hloc4)
          | (at_mapUpdate; refine wpList_mapUpdate_back _ rfl _ _ _ 42 rfl hback rfl rfl rfl ((World.grownBy_alloc _ _ _).trans hgrow4) (hoi.appended hown4 (WalkArith.wf_i64 (by omega))) (by simp; omega) (hloc4.imp id (fun h => ⟨_, h, by simp⟩)) ?_; intro w5 hown5 hgrow5)
          | fail)
        go_roundw
        case rel =>
          have hzp := places_eq hoi hat (HR.out.tie T0)
          have hdp := (hoi.appended hown4 (WalkArith.wf_i64 (by omega))).datum_pos (H := Unit) (by simp)
          refine ⟨k + 1, D.put (.string T0) (rowDatum .i64 v' (zs ++ [(k : Int)])), by omega, by go_num, ⟨?_, hown5, HR.out.is.put _ _, fun T => ?_, ?_⟩⟩
          · refine ext_grown (ext_grown ((HR.out.ext.trans X2.out).alloc _) hgrow4 fun b hb => ?_) hgrow5 fun b hb => ?_
            · have := (hoi.1.lt b hb).1; omega
            · cases hb; exact Nat.le_refl _
          · rw [HT.out]
            rw [← HT0.out]
            by_cases e : T0 = T
            · subst e
              rw [atKey_put_same HR.out.is (slaw.key HK.out), hdp, if_pos (by rw [hwh]; simp), ← hzp]
              unfold datP
              rw [if_neg (by simp)]
            · rw [atKey_put_other (fun e2 => e (by simpa using e2.symm)), HR.out.tie, if_neg (by rw [hwh]; simpa using e)]
          · have h1 := hgrow4.size
            have h2 := hgrow5.size
            have h3 := X2.out.size
            have h4 := HR.out.hs
            simp at h1
            omega
        case measure => simp [intOf]; omega
      · have hwf : wholeR (r.getD k []) = false := by simpa using hwh
        rw [hwf] at hW
        have HT := Lib.hid (placesT_succ r k)
        go_wp2_with (first
          | (go_at_call 18; refine hW.mono ?_; rintro e W1 ⟨rfl, hx1⟩; have X1 := Lib.hid hx1; clear hx1)
          | fail)
        go_roundw
        case rel =>
          refine ⟨k + 1, D, by omega, by go_num, ⟨HR.out.ext.trans X1.out, groups_mono (HR.out.own.kept (grown_of_ext X1.out) (by simp) (fun _ _ _ _ _ => Classical.em _)) (Nat.le_succ _), HR.out.is, fun T => ?_, Nat.le_trans HR.out.hs X1.out.size⟩⟩
          rw [HT.out, if_neg (by rw [hwf]; simp)]
          exact HR.out.tie T
        case measure => simp [intOf]; omega
    · have hke : k = r.length := by omega
      subst hke
      obtain ⟨W1, rfl⟩ : ∃ W1, W1 = wr := ⟨_, rfl⟩
      have hW0 : w.heap.size < W1.heap.size := hr.hs
      have hsh : W1.Shuns w.heap.size (fun g => W1.heap.size ≤ g) := World.Shuns.reno (No := fun _ => False) (fun _ _ _ _ _ _ _ h => h) hr.own (fun g h => .inr h)
      have HR := Lib.hid hr
      have HS := Lib.hid hsh
      clear hr hsh
      have hb16 : bP = 16 := by
        have h : (Tryd.prog.info? 32).map (fun i => i.bytes) = some 16 := by kernel_rfl
        rw [ho0] at h
        simp at h
        omega
      go_wp2_with fail
      go_loopw [8, 39] (fun s8 s39 wr => ∃ (i : Nat) (o : List (Int × Int)) (a2 : Option Addr) (c2 : Nat), i ≤ l.length ∧ s8 = .slice a2 o.length c2 ∧ s39 = .int .i64 i ∧ o = (List.range i).flatMap (hRow l r) ∧ RO W1 o (.slice a2 o.length c2) wr) (fun _ s39 _ => l.length - (intOf s39).toNat)
      case atStart => exact ⟨0, [], none, 0, Nat.zero_le _, rfl, rfl, rfl, ⟨Ext.refl _, World.ownsRow_nil _ _ _ _⟩⟩
      case round =>
        obtain ⟨i, o, a2, c2, hi, rfl, rfl, ho, hro⟩ := hrel
        have hol := hFlat_len l r i
        rw [← ho] at hol
        by_cases hlt : i < l.length
        · obtain ⟨rfl, hcapl⟩ := HLA.out (fun e => by rw [e] at hlt; simp at hlt)
          have X0 := Lib.hid (HR.out.ext.trans hro.ext)
          have d0 := X0.out.keeps (HLC.out i hlt)
          have k0 : (i : Int) < (l.length : Int) := by omega
          have hxm : l.getD i [] ∈ l := by rw [List.getD_eq_getElem?_getD, List.getElem?_eq_getElem hlt]; exact List.getElem_mem _
          obtain ⟨ok1, ok2⟩ := hokl _ hxm
          have hW := HWL.out i _ X0.out hlt
          have HO := Lib.hid hro
          have HF0 := Lib.hid ho
          clear hro ho
          have hmul : (i + 1) * r.length ≤ 1000000 * 1000000 := Nat.mul_le_mul (by omega) (by omega)
          rw [Nat.succ_mul] at hmul
          by_cases hwh : wholeR (l.getD i []) = true
          · rw [hwh] at hW
            obtain ⟨T0, hT0⟩ : ∃ T0, T0 = keyT (l.getD i []) := ⟨_, rfl⟩
            rw [← hT0] at ok2
            have HK := Lib.hid (skey T0 ok2)
            have HKK := Lib.hid (HR.out.tie T0)
            have HN : ∀ W, Ext w W → Calls Tryd.prog 19 #[lkv i] W fun e W' => e = .returned (.string ⟨T0.toArray⟩) ∧ Ext W W' := fun W h => by rw [hT0]; exact HNL.out i W h hlt
            have HN := Lib.hid HN
            have HT0 := Lib.hid hT0
            clear hT0
            go_wp2_with (first
              | (go_at_call 18; refine hW.mono ?_; rintro e W2 ⟨rfl, hx1⟩; have X1 := Lib.hid hx1; clear hx1; have d1 := X1.out.keeps d0)
              | (go_at_call 19; refine (HN.out _ (X0.out.trans X1.out)).mono ?_; rintro e W3 ⟨rfl, hx2⟩; have X2 := Lib.hid (X1.out.trans hx2); clear hx2; have X3 := Lib.hid (HO.out.ext.trans X2.out); have MO := Lib.hid (HR.out.own.kept (grown_of_ext X3.out) (by simp) (fun _ _ _ _ _ => Classical.em _)); have MS := Lib.hid (Ext.shuns X3.out HS.out hW0))
              | (at_lookup; refine wpList_lookup_groups_shuns _ rfl _ _ 42 rfl 9 29 3 .i64 slaw Tryd.underlying42 (zeroS _) (w.heap.size + 1) w.heap.size r.length D rfl MO.out (by unfold maxLen; omega) _ _ rfl HK.out ?_; intro u zs hat hoi hzl hback hsu; obtain ⟨ua, uc, rfl, huf⟩ := own_form hoi.1; have HZ := Lib.hid (places_eq hoi hat HKK.out); have HU := Lib.hid (hsu _ MS.out); have HI := Lib.hid hoi; have HF := Lib.hid huf; clear hat hoi hback hsu huf)
              | fail)
            have RW3 : RO W1 o (.slice a2 o.length c2) W3 := ⟨X3.out, HO.out.row.kept (grown_of_ext X2.out) (Classical.em _)⟩
            go_loopw [8, 56] (fun s8 s56 wr => ∃ (j : Nat) (o2 : List (Int × Int)) (a3 : Option Addr) (c3 : Nat), j ≤ zs.length ∧ s8 = .slice a3 o2.length c3 ∧ s56 = .int .i64 j ∧ o2 = o ++ (zs.take j).map (fun y => ((i : Int), y)) ∧ RO W1 o2 (.slice a3 o2.length c3) wr) (fun _ s56 _ => zs.length - (intOf s56).toNat)
            case atStart => exact ⟨0, o, a2, c2, Nat.zero_le _, rfl, rfl, by simp, RW3⟩
            case round =>
              obtain ⟨j, o2, a3, c3, hj, rfl, rfl, ho2, hro2⟩ := hrel
              by_cases hjl : j < zs.length
              · obtain ⟨ug, rfl, hucap⟩ := HF.out (by omega)
                have hug : ug < W1.heap.size := Nat.lt_of_not_le (HU.out ug rfl)
                obtain ⟨y, hy⟩ : ∃ y, y = zs.getD j 0 := ⟨_, rfl⟩
                have hyz : zs[j]? = some y := by rw [hy, List.getD_eq_getElem?_getD, List.getElem?_eq_getElem hjl]; rfl
                have q0 : wr.cell? ⟨ug, j, none⟩ = some (.int .i64 y) := by
                  have e1 := HI.out.1.cellAt j (by simpa using hjl)
                  have e2 : W3.cell? ⟨ug, j, none⟩ = some (.int .i64 y) := by
                    rw [e1, List.getElem?_map, hyz]; rfl
                  rw [hro2.ext.cell (p := ⟨ug, j, none⟩) hug, ← X3.out.cell (p := ⟨ug, j, none⟩) hug]
                  exact e2
                have j0 : (j : Int) < (zs.length : Int) := by omega
                have hol2 : o2.length = o.length + j := by rw [ho2, List.length_append, List.length_map, List.length_take]; omega
                have HY := Lib.hid hyz
                have HO2 := Lib.hid hro2
                have HE2 := Lib.hid ho2
                clear hyz hro2 ho2 hy
                go_wp2_with (first
                  | (at_builtin; refine wpList_append_lies _ rfl _ _ _ rfl W1.heap.size 32 iP zP 2 bP undP ho0 ho3 ho1 ho2 ho4 (by omega) _ _ _ rfl (HO2.out.row.alloc _) ⟨wr.heap.size, 0, none⟩ 1 1 [.int .i64 i, .int .i64 y] rfl rfl (cell_two_new _ _ _ _) (by simp [Value.oneCell']) (by omega) (by unfold maxLen; omega) (by rw [hb16]; omega) (by have := HO2.out.ext.size; simp; omega) _ rfl ?_; intro g5 cap5 w5 hown5 hgrow5 hat5 hlt5)
                  | fail)
                go_roundw
                case rel =>
                  refine ⟨j + 1, o2 ++ [((i : Int), y)], some ⟨g5, 0, none⟩, cap5, by omega, by rw [List.length_append, List.length_singleton, hol2], by go_num, ?_, ⟨ext_grown (HO2.out.ext.alloc _) hgrow5 fun b hb => (HO2.out.row.lt b hb).1, ?_⟩⟩
                  · rw [HE2.out, List.take_add_one, HY.out, List.map_append, List.append_assoc]; rfl
                  · rw [prV_snoc, List.length_append]; exact hown5
                case measure => simp [intOf]; omega
              · go_wp2_with fail
                go_roundw
                case rel =>
                  have hje : j = zs.length := by omega
                  subst hje
                  refine ⟨i + 1, o2, a3, c3, by omega, rfl, by go_num, ?_, hro2⟩
                  rw [ho2, List.take_length, HF0.out, List.range_succ, List.flatMap_append]
                  congr 1
                  simp only [List.flatMap_cons, List.flatMap_nil, List.append_nil]
                  unfold hRow
                  rw [if_pos hwh, HZ.out, HT0.out]
                case measure => simp [intOf]; omega
          · have hwf : wholeR (l.getD i []) = false := by simpa using hwh
            rw [hwf] at hW
            go_wp2_with (first
              | (go_at_call 18; refine hW.mono ?_; rintro e W2 ⟨rfl, hx1⟩; have X1 := Lib.hid hx1; clear hx1)
              | fail)
            go_roundw
            case rel =>
              refine ⟨i + 1, o, a2, c2, by omega, rfl, by go_num, ?_, ⟨HO.out.ext.trans X1.out, HO.out.row.kept (grown_of_ext X1.out) (Classical.em _)⟩⟩
              rw [HF0.out, List.range_succ, List.flatMap_append]
              simp only [List.flatMap_cons, List.flatMap_nil, List.append_nil]
              unfold hRow
              rw [if_neg hwh, List.append_nil]
            case measure => simp [intOf]; omega
        · have hie : i = l.length := by omega
          subst hie
          go_wp2_with fail
          go_ret
          have ej : jPairs l r = o := by
            rw [ho]
            unfold jPairs
            congr 1
            exact funext fun i => (hRow_eq l r i).symm
          rw [ej]
          exact ⟨_, rfl, HR.out.ext.trans hro.ext, own_base hro.row (by omega)⟩
theorem prs_get : ∀ (xs : List (Int × Int)) (i j : Nat), j < 2 → i < xs.length → (xs.flatMap prV)[i * 2 + j]? = (prV (xs.getD i (0, 0)))[j]?
  | [], i, j, _, h => absurd h (by simp)
  | x :: xs, 0, j, hj, _ => by
    rw [List.flatMap_cons, Nat.zero_mul, Nat.zero_add, List.getElem?_append_left (show j < 2 by exact hj)]
    rfl
  | x :: xs, i + 1, j, hj, h => by
    rw [List.flatMap_cons, List.getElem?_append_right (show 2 ≤ (i + 1) * 2 + j by omega)]
    have e : (i + 1) * 2 + j - (prV x).length = i * 2 + j := by show (i + 1) * 2 + j - 2 = _; omega
    rw [e, prs_get xs i j hj (by simpa using h)]
    rfl
theorem ret_pairs {St : Nat → Nat → Prop} {w w' : World} {v : Value} {xs : List (Int × Int)} (hext : Ext w w') (hbd : ∀ b o, St b o → b < w.heap.size) (hl : xs.length ≤ 9223372036854775807) (hx : ∀ x ∈ xs, ∀ u ∈ prV x, oneC u = true)
    (h : w'.ownsRow w.heap.size 32 2 v xs.length (xs.flatMap prV)) : Ret Tryd.prog En St w w' v [.c (.ob 0 0)] [⟨0, .pair, xs, some 0, true⟩] := by
  refine ret_own2 (τ := .pair) (xs := xs) (news := xs.flatMap prV) hext hbd hl h fun i hi j d hd => ?_
  obtain ⟨u, hu, rfl⟩ := prV_get _ j d hd
  have hj : j < 2 := (List.getElem?_eq_some_iff.1 hu).1
  refine ⟨u, ?_, .s _ (hx _ (List.getElem_mem hi) _ (List.mem_of_getElem? hu))⟩
  show (xs.flatMap prV)[i * 2 + j]? = some u
  rw [prs_get xs i j hj hi, List.getD_eq_getElem?_getD, List.getElem?_eq_getElem hi]
  exact hu
theorem jPairs_bd {l r : List (List Val)} (h : jBound l r) : ∀ x ∈ jPairs l r, ∀ u ∈ prV x, oneC u = true := fun x hx u hu => by
  obtain ⟨i, hi, hx⟩ := List.mem_flatMap.1 hx
  rw [List.mem_range] at hi
  unfold jRow at hx
  obtain ⟨k, hk, rfl⟩ := List.mem_map.1 hx
  have hk := (List.mem_filter.1 hk).1
  rw [List.mem_range] at hk
  obtain ⟨h1, h2⟩ := h
  have e1 : IntKind.i64.min = -9223372036854775808 := rfl
  have e2 : IntKind.i64.max = 9223372036854775807 := rfl
  simp only [prV, List.mem_cons, List.not_mem_nil, or_false] at hu
  rcases hu with rfl | rfl
  · exact decide_eq_true (show IntKind.i64.min ≤ (i : Int) ∧ (i : Int) ≤ IntKind.i64.max by omega)
  · exact decide_eq_true (show IntKind.i64.min ≤ (k : Int) ∧ (k : Int) ≤ IntKind.i64.max by omega)
theorem jPairs_len {l r : List (List Val)} (h : jBound l r) : (jPairs l r).length ≤ 1000000000000 := by
  obtain ⟨h1, h2⟩ := h
  have h3 := jPart_len l r l.length
  have h4 : l.length * r.length ≤ 1000000 * 1000000 := Nat.mul_le_mul h1 h2
  unfold jPairs
  omega
def F_joiner_Hash : FnC Un := fun args => match args with
  | [x0, x1] => (dL .row x0).bind fun l => (dL .row x1).bind fun r => some ([jBound l r ∧ keysOK l ∧ keysOK r], [.c (.ob 0 0)], [⟨0, .pair, jPairs l r, some 0, true⟩])
  | _ => none
theorem ok_joiner_Hash : FnOK 10 F_joiner_Hash := by
  intro args ob rs os h hob
  unfold F_joiner_Hash at h
  split at h
  · simp only [Option.bind_eq_some_iff, Option.some.injEq, Prod.mk.injEq] at h
    obtain ⟨l, e0, r, e1, rfl, rfl, rfl⟩ := h
    obtain rfl := dL_eq e0
    obtain rfl := dL_eq e1
    obtain ⟨hB, hok1, hok2⟩ := hob _ (List.mem_singleton.2 rfl)
    refine ⟨?_, hasBody_of Tryd.func10 (by kernel_rfl) (by kernel_rfl)⟩
    intro w St vs hbd hvs hld
    match vs, hvs with
    | [v0, v1], ⟨h0, h1, _⟩ =>
      obtain ⟨a, b, off, cap, kv, rfl, ha, hc⟩ := rows_cells h0
      obtain ⟨a', b', off', cap', kv', rfl, ha', hc'⟩ := rows_cells h1
      have hm : ∀ (l : List (List Val)) i, i < l.length → l.getD i [] ∈ l := fun l i hi => by rw [List.getD_eq_getElem?_getD, List.getElem?_eq_getElem hi]; exact List.getElem_mem _
      have hb2 : ∀ {W : World}, Ext w W → ∀ b o, St b o → b < W.heap.size := fun hx b o hs => Nat.lt_of_lt_of_le (hbd b o hs) hx.size
      refine (hash_walk l r a a' b off cap b' off' cap' kv kv' w hB hok1 hok2 ha ha' (fun i hi => (hc i hi).2.1) (fun i hi => (hc' i hi).2.1)
        (fun i W hx hi => whole_calls (hb2 hx) ((hc i hi).2.2.mono (ext_keep hx hbd)) (hld.ext hx)) (fun i W hx hi => whole_calls (hb2 hx) ((hc' i hi).2.2.mono (ext_keep hx hbd)) (hld.ext hx))
        (fun i W hx hi => name_calls ((hc i hi).2.2.mono (ext_keep hx hbd)) (hok1 _ (hm l i hi)).1 (hok1 _ (hm l i hi)).2 (hld.ext hx)) (fun i W hx hi => name_calls ((hc' i hi).2.2.mono (ext_keep hx hbd)) (hok2 _ (hm r i hi)).1 (hok2 _ (hm r i hi)).2 (hld.ext hx))).mono ?_
      rintro e w' ⟨v, rfl, hx, hrow⟩
      exact ⟨v, rfl, ret_pairs hx hbd (by have := jPairs_len hB; omega) (jPairs_bd hB) hrow⟩
  · simp at h
end
end Go.Proofs.YtcmfdbjdbbpomaaDoor.B
namespace Go.Proofs.YtcmfdbjdbbpomaaDoor.B
open Go Go.RowKit Go.Shelf Go.Maps
set_option maxRecDepth 1000000
set_option linter.unusedVariables false
noncomputable section
theorem pairs_cells {St : Nat → Nat → Prop} {w : World} {v : Value} {xs : List (Int × Int)} (h : VRel En St w v (.dat (U := Un) Ty.pair xs)) :
    ∃ (a : Option Addr) (b off cap : Nat), v = .slice a xs.length cap ∧ (xs ≠ [] → a = some ⟨b, off, none⟩ ∧ xs.length ≤ cap) ∧ ∀ i x, xs[i]? = some x → (w.cell? ⟨b, off + i * 2, none⟩ = some (.int .i64 x.1) ∧ w.cell? ⟨b, off + i * 2 + 1, none⟩ = some (.int .i64 x.2)) ∧
      (-9223372036854775808 ≤ x.1 ∧ x.1 ≤ 9223372036854775807) := by
  rcases h.inv with ⟨rfl, a, cap, rfl⟩ | ⟨b, o, cap, cv, rfl, hcap, h1, h2⟩
  · exact ⟨a, 0, 0, cap, rfl, fun h => (h rfl).elim, fun i x hi => by simp at hi⟩
  · refine ⟨_, b, o, cap, rfl, fun _ => ⟨rfl, hcap.1⟩, fun i x hx => ?_⟩
    obtain ⟨hi, rfl⟩ := List.getElem?_eq_some_iff.1 hx
    have c0 := (h1 i 0 hi (show (0 : Nat) < 2 by omega)).2
    have c1 := (h1 i 1 hi (show (1 : Nat) < 2 by omega)).2
    have e : o + i * Un.sz Ty.pair = o + i * 2 := rfl
    have r0 := vrel_s (h2 i hi 0 (.s (.int .i64 xs[i].1)) rfl)
    have r1 := vrel_s (h2 i hi 1 (.s (.int .i64 xs[i].2)) rfl)
    rw [e] at c0 c1
    rw [r0.1] at c0
    rw [r1.1] at c1
    exact ⟨⟨c0, c1⟩, oneC_i64.1 r0.2⟩
theorem ilaw : Keyed Tryd.prog 3 := int_keyed Tryd.underlying3
theorem ikey (n : Int) (h : -9223372036854775808 ≤ n ∧ n ≤ 9223372036854775807) : keyOf Tryd.prog 3 (.int .i64 n) = some (.int .i64 n) := by
  have hw : (Lit.int .i64 n).wf = true := WalkArith.wf_i64 (by omega)
  unfold keyOf mapKey
  rw [Tryd.underlying3]
  simp [hw]
theorem zeroB (w : World) : (zeroValue 4).run Tryd.prog w = .ok (.bool false) w := by kernel_rfl
structure RA (w : World) (p : List (Int × Int)) (k : Nat) (D : DataW Unit) (wr : World) : Prop where
  ext : Ext w wr
  own : wr.ownsMap Tryd.prog 3 (plainElem Tryd.prog 4) w.heap.size k D
  tie : ∀ i : Int, D.atKey (.int .i64 i) (.lit (.bool false)) = .lit (.bool ((p.take k).any fun q => q.1 == i))
  hs : w.heap.size < wr.heap.size
structure RB (W1 : World) (o : List Int) (v : Value) (wr : World) : Prop where
  ext : Ext W1 wr
  row : wr.ownsRow W1.heap.size 3 1 v o.length (o.map (Value.int .i64))
theorem aloneL_bd (n : Nat) (p : List (Int × Int)) : ∀ x ∈ aloneL n p, 0 ≤ x ∧ x < (n : Int) := fun x hx => by
  unfold aloneL at hx
  obtain ⟨i, hi, rfl⟩ := List.mem_map.1 hx
  have := (List.mem_filter.1 hi).1
  rw [List.mem_range] at this
  omega
theorem bool_of_plain {v : Value} {x : Bool} {ps : List MemPlace} (h : plainElem (H := Unit) Tryd.prog 4 v = some (.lit (.bool x), ps)) : v = .bool x := by
  unfold plainElem at h
  rw [Tryd.underlying4] at h
  cases v <;> simp at h
  rw [h.1]
set_option maxHeartbeats 8000000 in
theorem alone_walk (n : Int) (p : List (Int × Int)) (pa : Option Addr) (pb poff pcap : Nat) (w : World) (hn : n ≤ 1000000) (hpl : p.length ≤ 1000000000000)
    (hpa : p ≠ [] → pa = some ⟨pb, poff, none⟩ ∧ p.length ≤ pcap)
    (hpc : ∀ i x, p[i]? = some x → (w.cell? ⟨pb, poff + i * 2, none⟩ = some (.int .i64 x.1) ∧ w.cell? ⟨pb, poff + i * 2 + 1, none⟩ = some (.int .i64 x.2)) ∧ (-9223372036854775808 ≤ x.1 ∧ x.1 ≤ 9223372036854775807)) :
    Calls Tryd.prog 12 #[.int .i64 n, .slice pa p.length pcap] w fun e w' => ∃ v, e = .returned v ∧ Ext w w' ∧ w'.ownsRow w.heap.size 3 1 v (aloneL n.toNat p).length ((aloneL n.toNat p).map (Value.int .i64)) := by
  have mixed : Tryd.prog.follows .mixedOrders = true := by kernel_rfl
  have hmm := @run_makeMap Tryd.prog
  obtain ⟨bytes, iI, zI, hby, hbp, _, und, hi0, hi1, hi2, hi3, hi4⟩ := slOf (t := 29) (e := 3) (τ := .int) (by kernel_rfl)
  have HPA := Lib.hid hpa
  have HPC := Lib.hid hpc
  clear hpa hpc
  go_enter Tryd.func12, Tryd.ntmps12
  go_wp2
  go_loopw [13] (fun s13 wr => ∃ (k : Nat) (D : DataW Unit), k ≤ p.length ∧ s13 = .int .i64 k ∧ RA w p k D wr) (fun s13 _ => p.length - (intOf s13).toNat)
  case atStart => exact ⟨0, .map [], Nat.zero_le _, rfl, ⟨(Ext.refl w).alloc _, World.ownsMap_made _ _ _ _, fun i => rfl, by simp⟩⟩
  case round =>
    obtain ⟨k, D, hk, rfl, hr⟩ := hrel
    by_cases hlt : k < p.length
    · obtain ⟨rfl, hcap⟩ := HPA.out (fun e => by rw [e] at hlt; simp at hlt)
      obtain ⟨x, hx⟩ : ∃ x, p[k]? = some x := ⟨_, List.getElem?_eq_getElem hlt⟩
      obtain ⟨⟨c0, c1⟩, b0⟩ := HPC.out k x hx
      have d0 := hr.ext.keeps c0
      have d1 := hr.ext.keeps c1
      have k0 : (k : Int) < (p.length : Int) := by omega
      obtain ⟨xa, xb⟩ := x
      simp only at d0 d1 b0
      have HK := Lib.hid (ikey xa b0)
      have HR := Lib.hid hr
      have HX := Lib.hid hx
      clear hr hx c0 c1
      go_wp2_with (first
        | (at_mapUpdate; refine wpList_mapUpdate_own _ rfl _ _ _ 51 rfl 3 4 ilaw Tryd.underlying51 _ w.heap.size k D rfl (HR.out.own.alloc _) (by unfold maxLen; omega) _ _ (.int .i64 xa) rfl rfl HK.out (.lit (.bool true)) [] (plainElem_bool Tryd.underlying4 true) ?_; intro w3 hown3 hgrow3)
        | fail)
      go_roundw
      case rel =>
        refine ⟨k + 1, _, by omega, by go_num, ⟨ext_grown (HR.out.ext.alloc _) hgrow3 (fun b hb => by cases hb; exact Nat.le_refl _), hown3, fun i => ?_, by have h1 := hgrow3.size; have h2 := HR.out.hs; simp at h1; omega⟩⟩
        rw [List.take_add_one, HX.out, List.any_append]
        by_cases e : xa = i
        · subst e
          rw [atKey_put_same HR.out.own.isMap (ilaw.key HK.out)]
          simp
        · rw [atKey_put_other (fun e2 => e (by simpa using e2.symm)), HR.out.tie]
          simp [e]
      case measure => simp [intOf]; omega
    · have hke : k = p.length := by omega
      subst hke
      obtain ⟨W1, rfl⟩ : ∃ W1, W1 = wr := ⟨_, rfl⟩
      have htie : ∀ i : Int, D.atKey (.int .i64 i) (.lit (.bool false)) = .lit (.bool (p.any fun q => q.1 == i)) := fun i => by have := hr.tie i; rw [List.take_length] at this; exact this
      have HR := Lib.hid hr
      have HT := Lib.hid htie
      clear hr htie
      go_wp2_with fail
      go_loopw [8, 9] (fun s8 s9 wr => ∃ (i : Nat) (o : List Int) (a2 : Option Addr) (c2 : Nat), i ≤ n.toNat ∧ s8 = .slice a2 o.length c2 ∧ s9 = .int .i64 i ∧ o = aloneL i p ∧ RB W1 o (.slice a2 o.length c2) wr) (fun _ s9 _ => n.toNat - (intOf s9).toNat)
      case atStart => exact ⟨0, [], none, 0, Nat.zero_le _, rfl, rfl, rfl, ⟨Ext.refl _, World.ownsRow_nil _ _ _ _⟩⟩
      case round =>
        obtain ⟨i, o, a2, c2, hi, rfl, rfl, ho, hro⟩ := hrel
        have hol := aloneL_len i p
        rw [← ho] at hol
        by_cases hlt : (i : Int) < n
        · have hki := ikey (i : Int) (by omega)
          have hown := HR.out.own.kept (grown_of_ext hro.ext) (by simp)
          obtain ⟨v0, ps, hrun, hR⟩ := hown.lookup ilaw Tryd.underlying51 (zeroB _) (plainElem_bool (H := Unit) Tryd.underlying4 false) hki
          rw [HT.out] at hR
          obtain rfl := bool_of_plain hR
          have HS := Lib.hid (aloneL_succ i p)
          have HO := Lib.hid ho
          have HRO := Lib.hid hro
          clear hR hown hki ho hro
          cases hany : p.any fun q => q.1 == (i : Int) with
          | true =>
            rw [hany] at hrun
            go_wp2_with fail
            go_roundw
            case rel => exact ⟨i + 1, o, a2, c2, by omega, rfl, by go_num, by rw [HS.out, if_pos hany]; exact HO.out, HRO.out⟩
            case measure => simp [intOf]; omega
          | false =>
            rw [hany] at hrun
            go_wp2_with (first
              | (at_builtin; refine wpList_append_lies _ rfl _ _ _ rfl W1.heap.size 3 iI zI 1 bytes und hi0 hi3 hi1 hi2 hi4 (by omega) _ _ _ rfl (HRO.out.row.alloc _) ⟨wr.heap.size, 0, none⟩ 1 1 [.int .i64 i] rfl rfl (cell_one_new _ _ _) (ints_oneCell .i64 [(i : Int)]) (by omega) (by unfold maxLen; omega) (Nat.le_trans (Nat.mul_le_mul (show o.length + 1 ≤ 1000001 by omega) hby) (by decide)) (by have := HRO.out.ext.size; simp; omega) _ rfl ?_; intro g5 cap5 w5 hown5 hgrow5 hat5 hlt5)
              | fail)
            go_roundw
            case rel =>
              refine ⟨i + 1, o ++ [(i : Int)], some ⟨g5, 0, none⟩, cap5, by omega, by rw [List.length_append, List.length_singleton], by go_num, by rw [HS.out, if_neg (by rw [hany]; simp), ← HO.out], ⟨ext_grown (HRO.out.ext.alloc _) hgrow5 fun b hb => (HRO.out.row.lt b hb).1, ?_⟩⟩
              rw [List.map_append, List.length_append]; exact hown5
            case measure => simp [intOf]; omega
        · go_wp2_with fail
          go_ret
          have hie : n.toNat = i := by omega
          rw [hie, ← ho]
          exact ⟨_, rfl, HR.out.ext.trans hro.ext, own_base hro.row (by have := HR.out.hs; omega)⟩
theorem ret_ints {St : Nat → Nat → Prop} {w w' : World} {v : Value} {xs : List Int} (hext : Ext w w') (hbd : ∀ b o, St b o → b < w.heap.size) (hl : xs.length ≤ 9223372036854775807) (hx : ∀ x ∈ xs, oneC (.int .i64 x) = true)
    (h : w'.ownsRow w.heap.size 3 1 v xs.length (xs.map (Value.int .i64))) : Ret Tryd.prog En St w w' v [.c (.ob 0 0)] [⟨0, .int, xs, some 0, true⟩] := by
  refine ret_own2 (τ := .int) (xs := xs) (news := xs.map (Value.int .i64)) hext hbd hl h fun i hi j d hd => ?_
  have hd' : ([.s (.int .i64 (xs[i]'hi))] : List (V Un))[j]? = some d := hd
  cases j with
  | succ j => simp at hd'
  | zero =>
    simp at hd'; subst hd'
    refine ⟨.int .i64 xs[i], ?_, .s _ (hx _ (List.getElem_mem hi))⟩
    show (xs.map (Value.int .i64))[i * 1 + 0]? = _
    rw [Nat.mul_one, Nat.add_zero, List.getElem?_map, List.getElem?_eq_getElem hi]; rfl
def F_joiner_Alone : FnC Un := fun args => match args with
  | [x0, x1] => (dI .i64 x0).bind fun n => (dL .pair x1).bind fun l => some ([n ≤ 1000000 ∧ l.length ≤ 1000000000000], [.c (.ob 0 0)], [⟨0, .int, aloneL n.toNat l, some 0, true⟩])
  | _ => none
theorem ok_joiner_Alone : FnOK 12 F_joiner_Alone := by
  intro args ob rs os h hob
  unfold F_joiner_Alone at h
  split at h
  · simp only [Option.bind_eq_some_iff, Option.some.injEq, Prod.mk.injEq] at h
    obtain ⟨n, e0, l, e1, rfl, rfl, rfl⟩ := h
    obtain rfl := dI_eq e0
    obtain rfl := dL_eq e1
    obtain ⟨hn, hl⟩ := hob _ (List.mem_singleton.2 rfl)
    refine ⟨?_, hasBody_of Tryd.func12 (by kernel_rfl) (by kernel_rfl)⟩
    intro w St vs hbd hvs hld
    match vs, hvs with
    | [v0, v1], ⟨h0, h1, _⟩ =>
      obtain rfl := (vrel_s h0).1
      obtain ⟨a, b, off, cap, rfl, ha, hc⟩ := pairs_cells h1
      refine (alone_walk n l a b off cap w hn hl ha hc).mono ?_
      rintro e w' ⟨v, rfl, hx, hrow⟩
      have e1 : IntKind.i64.min = -9223372036854775808 := rfl
      have e2 : IntKind.i64.max = 9223372036854775807 := rfl
      exact ⟨v, rfl, ret_ints hx hbd (by have := aloneL_len n.toNat l; omega) (fun x hx => decide_eq_true (show IntKind.i64.min ≤ x ∧ x ≤ IntKind.i64.max by have := aloneL_bd n.toNat l x hx; omega)) hrow⟩
  · simp at h
end
end Go.Proofs.YtcmfdbjdbbpomaaDoor.B
namespace Go.Proofs.YtcmfdbjdbbpomaaDoor.B
open Go Go.RowKit
set_option maxRecDepth 100000
noncomputable section
attribute [local irreducible] awp ctxK itersK iterK retQ retGQ awf ctxF loopF
def M_value_Num : Mc Un := mach (tbl []) (tbl []) (tbl []) (tbl []) (tbl [])
def A_value_Num (r : Val) : List (A Un) := [.agg (encC Ty.val r)]
def O_value_Num (_r : Val) : List (Ob Un) := []
def R_value_Num (r : Val) : RF Un := (A_value_Num r, O_value_Num r)
def N_value_Num : Nat → NS := fun l => (look l []).getD ⟨[], [], [], [], [], false⟩
def value_Num_fn (n : Int) : Option (RF Un) := awf M_value_Num N_value_Num (bodyOf Tryd.f15) (entry Tryd.f15.ntmps 0 [.d (.v (.s (.int .i64 n)))]) (retF M_value_Num Tryd.f15.results.toList [.d])
theorem value_Num_in (n : Int) : value_Num_fn n =
 some (R_value_Num ({ kind := (2 : Int), n := n, s := (ByteArray.mk #[]) })) := by kernel_rfl
def value_Num (n : Int) : Val :=
  ({ kind := (2 : Int), n := n, s := (ByteArray.mk #[]) })
theorem value_Num_eq (n : Int) : value_Num_fn n = some (R_value_Num (value_Num n)) := by rw [value_Num_in]; unfold value_Num; simp only [cndO_eq]; repeat (first | rfl | split)
def F_value_Num : FnC Un := fun args => match args with
  | [x0] => (dI .i64 x0).bind fun n => some ([], A_value_Num (value_Num n), O_value_Num (value_Num n))
  | _ => none
theorem ok_value_Num : FnOK 15 F_value_Num := by
  intro args ob rs os h hob
  unfold F_value_Num at h
  split at h
  · simp only [Option.bind_eq_some_iff, Option.some.injEq, Prod.mk.injEq] at h
    obtain ⟨n, e0, rfl, rfl, rfl⟩ := h
    obtain rfl := dI_eq e0
    exact ⟨fn_contractF (M := M_value_Num) rfl (tbl_ok (l1 := []) (l2 := []) (l3 := []) (l4 := []) (l5 := []) trivial trivial trivial trivial trivial) Tryd.func15 (by kernel_rfl) N_value_Num 0 [.d] (fun hwf => (value_Num_eq n)), hasBody_of Tryd.func15 (by kernel_rfl) (by kernel_rfl)⟩
  · simp at h
end
end Go.Proofs.YtcmfdbjdbbpomaaDoor.B
namespace Go.Proofs.YtcmfdbjdbbpomaaDoor.B
open Go Go.RowKit
set_option linter.unusedVariables false
noncomputable section
theorem mem_jPairs {l r : List (List Val)} {x : Int × Int} : x ∈ jPairs l r ↔ ∃ i k : Nat, i < l.length ∧ k < r.length ∧ meetR (l.getD i []) (r.getD k []) = true ∧ x = ((i : Int), (k : Int)) := by
  unfold jPairs jRow
  rw [List.mem_flatMap]
  constructor
  · rintro ⟨i, hi, hx⟩
    obtain ⟨k, hk, rfl⟩ := List.mem_map.1 hx
    obtain ⟨h1, h2⟩ := List.mem_filter.1 hk
    exact ⟨i, k, List.mem_range.1 hi, List.mem_range.1 h1, h2, rfl⟩
  · rintro ⟨i, k, hi, hk, hm, rfl⟩
    exact ⟨i, List.mem_range.2 hi, List.mem_map.2 ⟨k, List.mem_filter.2 ⟨List.mem_range.2 hk, hm⟩, rfl⟩⟩
def exJL : List (List Val) := [[⟨2, 1, ⟨#[]⟩⟩], [zeroVal], [⟨2, 2, ⟨#[]⟩⟩]]
def exJR : List (List Val) := [[⟨2, 2, ⟨#[]⟩⟩], [⟨2, 1, ⟨#[]⟩⟩], [⟨2, 1, ⟨#[]⟩⟩]]
theorem exJP : jPairs exJL exJR = [((0 : Int), (1 : Int)), ((0 : Int), (2 : Int)), ((2 : Int), (0 : Int))] := by
  have hl : exJL.length = 3 := rfl
  have hr : exJR.length = 3 := rfl
  unfold jPairs jRow
  rw [hl, hr]
  simp [List.range_succ, List.filter_cons, exJL, exJR, meetR, wholeR, zeroVal]
theorem exJA : aloneL 3 [((0 : Int), (1 : Int)), ((0 : Int), (2 : Int)), ((2 : Int), (0 : Int))] = [(1 : Int)] := by
  unfold aloneL
  simp [List.range_succ]
theorem exJ_ok : keysOK exJL ∧ keysOK exJR := by
  have h0 : WS .val (⟨2, 1, ⟨#[]⟩⟩ : Val) := (WS_val _).2 ⟨by unfold WI; decide, by unfold WI; decide, by unfold WStr; decide⟩
  have h1 : WS .val (⟨2, 2, ⟨#[]⟩⟩ : Val) := (WS_val _).2 ⟨by unfold WI; decide, by unfold WI; decide, by unfold WStr; decide⟩
  have h2 : WS .val zeroVal := (WS_val _).2 ⟨by unfold WI; decide, by unfold WI; decide, by unfold WStr; decide⟩
  have key : ∀ v, WS .val v → v.s.size = 0 → [v].length ≤ 1000000000 ∧ (keyT [v]).length ≤ 1000000000000 := fun v h hs => by
    have := valT_len h
    refine ⟨by simp, ?_⟩
    rw [keyT, keyT, List.append_nil]; omega
  constructor
  · intro r hr
    simp only [exJL, List.mem_cons, List.not_mem_nil, or_false] at hr
    rcases hr with rfl | rfl | rfl
    · exact key _ h0 rfl
    · exact key _ h2 rfl
    · exact key _ h1 rfl
  · intro r hr
    simp only [exJR, List.mem_cons, List.not_mem_nil, or_false] at hr
    rcases hr with rfl | rfl | rfl
    · exact key _ h1 rfl
    · exact key _ h0 rfl
    · exact key _ h0 rfl
end
end Go.Proofs.YtcmfdbjdbbpomaaDoor.B
