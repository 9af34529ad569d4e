/- No condition. -/
import Derived.Below
import Derived.Orders
import Derived.Still
namespace Go.Rx
open Go
section
variable {α : Type _} {β : Type _}
theorem yaa : ∀ {l : List α} {i : Nat} {a : α}, l.getD i a = l[i]?.getD a := List.getD_eq_getElem?_getD
theorem yab : ∀ {l : List α} {i : Nat} (h : i < l.length), l[i]? = some l[i] := List.getElem?_eq_getElem
theorem yac : ∀ (a : α) (f : α → Option β), (some a).bind f = f a := Option.bind_some
theorem yad : (false = true) = False := Bool.false_eq_true
theorem yae : ∀ {as bs : List α}, (as ++ bs).length = as.length + bs.length := List.length_append
theorem yaf : ∀ (h : α) (t : List α) (k : α) (u : List α), (h :: t = k :: u) = (h = k ∧ t = u) := List.cons.injEq
theorem yag : ∀ (a b : Bool), ((a && b) = true) = (a = true ∧ b = true) := Bool.and_eq_true
theorem yah : ∀ {i : Nat} {a : α} {l : List α}, l[i]? = some a ↔ ∃ h, l[i] = a := List.getElem?_eq_some_iff
theorem yai : ∀ (n : Nat), n ≤ n := Nat.le_refl
theorem yaj : ∀ {n m : Nat} (k : Nat), n ≤ m → n * k ≤ m * k := Nat.mul_le_mul_right
theorem yak : ∀ {xs : Array α} {i : Nat} {d : α}, xs.getD i d = xs[i]?.getD d := Array.getD_eq_getD_getElem?
theorem yal : ∀ {xs : Array α}, xs.toList.length = xs.size := Array.length_toList
theorem yam : ∀ {i : Nat} {l : List α}, (l.take i).length = min i l.length := List.length_take
theorem yan : ∀ {f : α → β} {a : α} {l : List α}, List.map f (a :: l) = f a :: l.map f := List.map_cons
theorem yao : ∀ {n m : Nat}, n.ble m = true → n ≤ m := Nat.le_of_ble_eq_true
theorem yap : ∀ {l : List α} {i j : Nat}, (l.take i)[j]? = if j < i then l[j]? else none := List.getElem?_take
theorem yaq : ∀ {a : α} {as : List α}, (a :: as).length = as.length + 1 := List.length_cons
theorem yar : ∀ {l₁ l₂ : List α} {i : Nat}, i < l₁.length → (l₁ ++ l₂)[i]? = l₁[i]? := List.getElem?_append_left
theorem yas : ∀ (n m k : Nat), (n + m) * k = n * k + m * k := Nat.add_mul
theorem yat : ∀ (y : α) {a : α} {l : List α}, a ∈ l → a ∈ y :: l := List.mem_cons_of_mem
theorem yau : ∀ {l : List α}, l.length = 0 → l = [] := List.eq_nil_of_length_eq_zero
theorem yav : ∀ {b : α} {l : List α} {a : α}, a ∈ b :: l ↔ a = b ∨ a ∈ l := List.mem_cons
theorem yaw : ∀ {xs : Array α} {i : Nat}, xs.toList[i]? = xs[i]? := Array.getElem?_toList
theorem yax : ∀ {l₁ l₂ : List α} {i : Nat}, l₁.length ≤ i → (l₁ ++ l₂)[i]? = l₂[i - l₁.length]? := List.getElem?_append_right
theorem yay : ∀ {f : α → β} {l : List α} {i : Nat}, (l.map f)[i]? = Option.map f l[i]? := List.getElem?_map
theorem yaz : ∀ (a : α) (f : α → β), Option.map f (some a) = some (f a) := Option.map_some
theorem yba : ∀ {p : α → Bool} {l : List α}, l.all p = true ↔ ∀ (x : α), x ∈ l → p x = true := List.all_eq_true
theorem ybb : (!true) = false := Bool.not_true
theorem ybc : ∀ {i : Nat} {l : List α}, l.length ≤ i → l.drop i = [] := List.drop_of_length_le
theorem ybd : ∀ {xs : Array α} {i : Nat} (h : i < xs.size), xs[i]? = some xs[i] := Array.getElem?_eq_getElem
theorem ybe : ∀ {xs : List α} {i j : Nat}, (xs.drop i)[j]? = xs[i + j]? := List.getElem?_drop
theorem ybf : ∀ (b : Bool), (true && b) = b := Bool.true_and
theorem ybg : ∀ {n m : Nat}, n.beq m = true → n = m := Nat.eq_of_beq_eq_true
theorem ybh : ∀ {n m k : Nat}, n < m → m ≤ k → n < k := Nat.lt_of_lt_of_le
theorem ybi : ∀ {as : List α} (f : α → β), (as.map f).length = as.length := List.length_map
theorem ybj : ∀ {a : α} {l : List α}, a ∈ l → ∃ (i : Nat) (h : i < l.length), l[i] = a := List.getElem_of_mem
theorem ybk : ∀ (n : Nat), 0 + n = n := Nat.zero_add
theorem ybl : ∀ {l : List α} {i : Nat} {a : α}, l[i]? = some a → a ∈ l := List.mem_of_getElem?
theorem ybm : ∀ {i : Nat} {l : List α}, (l.drop i).length = l.length - i := List.length_drop
theorem ybn : ∀ {l₁ l₂ : List α} {i : Nat}, i ≤ l₁.length → List.take i (l₁ ++ l₂) = l₁.take i := List.take_append_of_le_length
theorem ybo : ∀ {a : α} {l : List α}, a ∈ a :: l := List.mem_cons_self
theorem ybp : ∀ {n m : Nat}, n ≤ m → n.ble m = true := Nat.ble_eq_true_of_le
theorem ybq : ∀ {l : List α} {n : Nat} (h : n < l.length), l[n] ∈ l := List.getElem_mem
theorem ybr : ∀ (b : Bool), (false && b) = false := Bool.false_and
theorem ybs : ∀ (n : Nat), 0 ≤ n := Nat.zero_le
theorem ybt : ∀ (n : Nat), 1 * n = n := Nat.one_mul
theorem ybu : ∀ {i : Nat} {l : List α}, l.length ≤ i → l.take i = l := List.take_of_length_le
theorem ybv : ∀ (n : Nat), n + 0 = n := Nat.add_zero
theorem ybw : ∀ (as : List α), [] ++ as = as := List.nil_append
theorem ybx : ∀ {i : Nat} {b : α} {xs : Array α}, xs[i]? = some b ↔ ∃ h, xs[i] = b := Array.getElem?_eq_some_iff
theorem yby : ∀ {a : α} {l : List α} {f : α → Bool}, (a :: l).all f = (f a && l.all f) := List.all_cons
theorem ybz : ∀ (as bs cs : List α), as ++ bs ++ cs = as ++ (bs ++ cs) := List.append_assoc
theorem yca : ∀ {f : α → β}, List.map f [] = [] := List.map_nil
theorem ycc : ∀ {l : List α}, l.drop 0 = l := List.drop_zero
theorem ych : ∀ (b : Bool), (b && false) = false := Bool.and_false
theorem yci : ∀ (as : List α), as ++ [] = as := List.append_nil
theorem ycj : ∀ (a b : Bool), ((a || b) = true) = (a = true ∨ b = true) := Bool.or_eq_true
theorem ycl : ∀ {a : α}, ¬a ∈ [] := List.not_mem_nil
end
universe u v
theorem sj {α : Type u} {a b : α} : (some a = some b) = (a = b) := Option.some.injEq a b
theorem pj {α : Type u} {β : Type v} {a : α} {b : β} {c : α} {d : β} : ((a, b) = (c, d)) = (a = c ∧ b = d) := Prod.mk.injEq a b c d
theorem mj {α : Type u} {β : Type v} {f : α → β} {o : Option α} {b : β} : o.map f = some b ↔ ∃ a, o = some a ∧ f a = b := Option.map_eq_some_iff
inductive Lf where
 | val (v : Value)
 | ptr (k off : Nat)
 | eptr (cs : List Lf) (off : Nat)
 | aptr (k g i off : Nat)
 | view (sz n : Nat) (get : Nat → List Lf)
 | osl (k g off n : Nat)
 | csl (k sz off n : Nat)
 | mp (k : Nat)
 | fn (f : FuncId) (caps : List Lf)
instance : Inhabited Lf := ⟨.val (.tuple #[])⟩
inductive PV where
 | none
 | one (l : Lf)
 | agg (cs : List Lf)
 | tup (vs : List PV)
instance : Inhabited PV := ⟨.none⟩
inductive Ob where
 | cells (cs : List Lf)
 | tcells (t : TypeId) (cs : List Lf)
 | arr (el sz g n : Nat) (get : Nat → List Lf)
 | map (es : List (PV × PV))
structure St where
 tmps : Nat → PV
 objs : Nat → Option Ob
def PV.ofVal : Value → PV
 | .agg cs => if cs.toList.all (·.oneCell') then .agg (cs.toList.map .val) else .none
 | .tuple _ => .none
 | v => .one (.val v)
def Lf.toVal : Lf → Option Value
 | .val v => some v
 | _ => Option.none
def Lf.toVals : List Lf → Option (List Value)
 | [] => some []
 | l :: ls => match l.toVal, Lf.toVals ls with
  | some v, some vs => some (v :: vs)
  | _, _ => Option.none
def PV.toVal : PV → Option Value
 | .one l => l.toVal
 | .agg cs => (Lf.toVals cs).map fun vs => .agg vs.toArray
 | _ => Option.none
def PV.toVals : List PV → Option (List Value)
 | [] => some []
 | p :: ps => match p.toVal, PV.toVals ps with
  | some v, some vs => some (v :: vs)
  | _, _ => Option.none
def PV.cells : PV → Option (List Lf)
 | .one l => some [l]
 | .agg cs => some cs
 | _ => Option.none
def Lf.clean (vw : Bool) : Lf → Bool
 | .val _ => true
 | .view .. => vw
 | _ => false
def PV.clean (vw : Bool) : PV → Bool
 | .none => false
 | .one l => l.clean vw
 | .agg cs => cs.all (Lf.clean vw)
 | .tup vs => cleanL vs
where cleanL : List PV → Bool
 | [] => true
 | .one l :: vs => l.clean vw && cleanL vs
 | .agg cs :: vs => cs.all (Lf.clean vw) && cleanL vs
 | _ :: _ => false
def Lf.refsIn (ks : List Nat) : Lf → Bool
 | .val _ | .view .. | .eptr .. => true
 | .ptr k _ | .aptr k _ _ _ | .osl k _ _ _ | .csl k _ _ _ | .mp k => ks.contains k
 | .fn _ caps => refsInL caps
where refsInL : List Lf → Bool
 | [] => true
 | l :: ls => l.refsIn ks && refsInL ls
def PV.refsIn (ks : List Nat) : PV → Bool
 | .none => true
 | .one l => l.refsIn ks
 | .agg cs => cs.all (Lf.refsIn ks)
 | .tup _ => false
def Ob.refsIn (ks : List Nat) : Ob → Bool
 | .cells cs => cs.all (Lf.refsIn ks)
 | .tcells _ cs => cs.all (Lf.refsIn ks)
 | .arr .. => true
 | .map _ => true
def upd {α : Type} (f : Nat → α) (k : Nat) (v : α) : Nat → α := fun j => if j = k then v else f j
def ofl : List (Nat × PV) → Nat → PV
 | [], _ => .none
 | (k, v) :: l, j => if j = k then v else ofl l j
def oflO : List (Nat × Option Ob) → Nat → Option Ob
 | [], _ => Option.none
 | (k, v) :: l, j => if j = k then v else oflO l j
def St.put (st : St) (d : Option Nat) (v : PV) : St :=
 match d with
 | some d => { st with tmps := upd st.tmps d v }
 | Option.none => st
def St.ev (st : St) : Operand → PV
 | .tmp t => st.tmps t
 | .const v => PV.ofVal v
 | .func f => .one (.val (.func (.func f) #[] #[]))
 | .global _ => .none
def Lf.keys : Lf → List Nat
 | .ptr k _ | .aptr k _ _ _ | .osl k _ _ _ | .csl k _ _ _ | .mp k => [k]
 | .fn _ caps => keysL caps
 | _ => []
where keysL : List Lf → List Nat
 | [] => []
 | l :: ls => l.keys ++ keysL ls
def PV.keys : PV → List Nat
 | .one l => l.keys
 | .agg cs => Lf.keys.keysL cs
 | .tup vs => keysT vs
 | .none => []
where keysT : List PV → List Nat
 | [] => []
 | .one l :: vs => l.keys ++ keysT vs
 | .agg cs :: vs => Lf.keys.keysL cs ++ keysT vs
 | _ :: vs => keysT vs
def Ob.keys : Ob → List Nat
 | .cells cs => Lf.keys.keysL cs
 | .tcells _ cs => Lf.keys.keysL cs
 | .arr .. => []
 | .map _ => []
def zex (objs : Nat → Option Ob) : Nat → List Nat → List Nat → List Nat
 | 0, _, acc => acc
 | _ + 1, [], acc => acc
 | n + 1, k :: todo, acc => if acc.contains k then zex objs n todo acc else
  match objs k with
  | some o => zex objs n (o.keys ++ todo) (acc ++ [k])
  | Option.none => zex objs n todo acc
def zac : Nat := 1000000
def liveO (st : St) (ts os : List Nat) : List Nat :=
 let r := zex st.objs 200 (ts.flatMap (fun t => (st.tmps t).keys) ++ os.filter (fun k => Nat.ble zac k)) []
 os.filter fun k => Nat.ble zac k || r.contains k
def zgb (st : St) (ts os : List Nat) : Option St :=
 if ts.all (fun t => (st.tmps t).refsIn os) && os.all (fun k => match st.objs k with | some o => o.refsIn os | Option.none => true) then
  some { tmps := ofl (ts.map fun t => (t, st.tmps t)), objs := oflO (os.map fun k => (k, st.objs k)) }
 else Option.none
abbrev OwnE := Bool × Nat × Nat × Nat × TypeId × Nat
def prun {α : Type} (P : Program) : Sem α → Option α
 | .pure a => some a
 | .program k => prun P (k P)
 | _ => Option.none
inductive Prim where
 | bin (op : BinOp) (t : TypeId) (cx cy : Bool)
 | un (op : UnOp)
 | conv (s d : TypeId)
 | min | max
 | len (t : TypeId)
 | index (t : TypeId)
 | slice (t : TypeId) (lo hi : Bool)
def zeq (op : BinOp) (t : TypeId) (cx cy : Bool) (a b : Value) : Sem Unit :=
 eqGuard op t (if cx then .const .nilIface else .tmp 0) (if cy then .const .nilIface else .tmp 0) a b
def Prim.sem : Prim → List Value → Sem Value
 | .bin op t cx cy, [a, b] => do zeq op t cx cy a b; binOp op t a b
 | .un op, [a] => Op.unary op a
 | .conv s d, [a] => convert s d a
 | .min, vs => Builtin.min_ #[] 0 vs.toArray
 | .max, vs => Builtin.max_ #[] 0 vs.toArray
 | .len t, [a] => Builtin.len_ #[t] 0 #[a]
 | .index t, [a, i] => Instr.index t a i
 | .slice t true true, [a, l, h] => Instr.sliceAt t a (some l) (some h) Option.none
 | .slice t true false, [a, l] => Instr.sliceAt t a (some l) Option.none Option.none
 | .slice t false true, [a, h] => Instr.sliceAt t a Option.none (some h) Option.none
 | .slice t false false, [a] => Instr.sliceAt t a Option.none Option.none Option.none
 | _, _ => stuck ""
inductive POp where
 | mv (x : Operand)
 | pick (c a b : Operand)
 | prim (p : Prim) (xs : List Operand)
 | alloc (el : TypeId) (zero : Value) (ow : List (Nat × TypeId × Nat))
 | allocT (el : TypeId) (zero : Value) (ow : List (Nat × TypeId × Nat))
 | box (el : TypeId) (x : Operand) (ow : List (Nat × TypeId × Nat))
 | load (ag : Bool) (sz : Nat) (x : Operand)
 | store (sz : Nat) (a x : Operand)
 | nilc (x : Operand)
 | faddr (off : Nat) (x : Operand)
 | iaddrA (len esz : Nat) (x i : Operand)
 | iaddrS (esz : Nat) (x i : Operand)
 | bslice (el esz : Nat) (parts : List Operand)
 | build (zero : Value) (parts : List (Nat × Nat × Operand))
 | fld (ag : Bool) (off sz : Nat) (x : Operand)
 | idx (ag : Bool) (esz len : Nat) (x i : Operand)
 | ext (x : Operand) (i : Nat)
 | slc (esz : Nat) (x : Operand) (lo hi : Option Operand)
 | app (key el esz bytes : Nat) (s x : Operand)
 | lenS (x : Operand)
 | b2s (x : Operand)
 | s2b (el : TypeId) (x : Operand)
 | mkfn (f : FuncId) (caps : List Operand)
 | call (wr : Bool) (nl : List (List (Nat × Nat))) (f : FuncId) (args : List Operand)
 | callv (wr : Bool) (nl : List (List (Nat × Nat))) (x : Operand) (args : List Operand)
 | gcall (ow fz : Bool) (fp : List Nat) (nl : List (List (Nat × Nat))) (f : FuncId) (args : List Operand)
 | gcallv (ow fz : Bool) (fp : List Nat) (nl : List (List (Nat × Nat))) (x : Operand) (args : List Operand)
 | slcA (len esz : Nat) (x : Operand) (lo hi : Option Operand)
 | pnil (neg : Bool) (x : Operand)
 | bptrs (esz : Nat) (parts : List Operand)
 | bown (el esz : Nat) (parts : List Operand)
 | s2bo (el : TypeId) (x : Operand)
 | mmake
 | mlook (ok : Bool) (mt : TypeId) (nl : List (Nat × Nat)) (x k : Operand)
 | mset (mt : TypeId) (x k v : Operand)
 | mdel (mt : TypeId) (x k : Operand)
 | mlen (x : Operand)
 | appT (to el esz bytes : Nat) (s x : Operand)
 | appF (el esz bytes : Nat) (s x : Operand)
 | storeV (nl : List (Nat × Nat)) (sz : Nat) (a x : Operand)
 | buildV (nl : List (Nat × Nat)) (zero : Value) (parts : List (Nat × Nat × Operand))
inductive Hint where
 | imm
 | at_ (k off : Nat)
 | obj (k : Nat)
 deriving DecidableEq
structure POper where
 dst : Option Nat
 op : POp
 guard : Option (Nat × Bool)
 hints : List (Nat × Hint)
inductive PCode where
 | skip
 | region (keep : Option (List Nat × List Nat × List OwnE)) (draw : Bool) (ops : List POper)
 | seq (a b : PCode)
 | cond (c : Operand) (a b : PCode)
 | block (id : Nat) (c : PCode)
 | loop (c : PCode)
 | exit (id : Nat)
 | scope (c : PCode)
 | label
 | ret
abbrev zaf := FuncId → List PV → List Ob → Option (PV × List Ob)
def rdc (ag : Bool) (sz : Nat) (cs : List Lf) (off : Nat) : Option PV :=
 if ag then (if off + sz ≤ cs.length then some (.agg ((cs.drop off).take sz)) else Option.none)
 else (cs[off]?).map .one
def zau (cs : List Lf) (off : Nat) (new : List Lf) : List Lf := cs.take off ++ new ++ cs.drop (off + new.length)
def fillP (st : St) (cs : List Lf) : List (Nat × Nat × Operand) → Option (List Lf)
 | [] => some cs
 | (off, sz, x) :: rest =>
  match (st.ev x).cells with
  | some new => if new.length = sz ∧ off + sz ≤ cs.length then fillP st (zau cs off new) rest else Option.none
  | Option.none => Option.none
def zez (st : St) (esz : Nat) : List Operand → Option (List (List Lf))
 | [] => some []
 | x :: rest =>
  match (st.ev x).cells, zez st esz rest with
  | some new, some l => if new.length = esz then some (new :: l) else Option.none
  | _, _ => Option.none
def onesL (st : St) : List Operand → Option (List Lf)
 | [] => some []
 | x :: rest =>
  match st.ev x, onesL st rest with
  | .one l, some ls => some (l :: ls)
  | _, _ => Option.none
def PV.int? : PV → Option Int
 | .one (.val (.int _ n)) => some n
 | _ => Option.none
def bound? (st : St) (d : Nat) : Option Operand → Option Nat
 | Option.none => some d
 | some x => match (st.ev x).int? with
  | some n => if 0 ≤ n then some n.toNat else Option.none
  | Option.none => Option.none
def zag (os : List Ob) : Nat → Option Ob := fun k => if zac ≤ k then os[k - zac]? else Option.none
def evs (st : St) (xs : List Operand) : List PV := xs.map st.ev
def nilL (nl : List (Nat × Nat)) (j : Nat) : Lf → Lf
 | .val (.slice Option.none 0 0) => match nl.lookup j with
  | some sz => .view sz 0 fun _ => []
  | Option.none => .val (.slice Option.none 0 0)
 | l => l
def nilC (nl : List (Nat × Nat)) : Nat → List Lf → List Lf
 | _, [] => []
 | j, l :: ls => nilL nl j l :: nilC nl (j + 1) ls
def nilP (nl : List (Nat × Nat)) : PV → PV
 | .one l => match nl with
  | [] => .one l
  | _ => .one (nilL nl 0 l)
 | .agg cs => match nl with
  | [] => .agg cs
  | _ => .agg (nilC nl 0 cs)
 | p => p
def nilA : List (List (Nat × Nat)) → List PV → List PV
 | nl :: nls, p :: ps => nilP nl p :: nilA nls ps
 | _, ps => ps
def zay (objs : Nat → Option Ob) : List PV → List Nat → Option (List PV × List Nat × Bool)
 | [], ks => some ([], ks, false)
 | .one (.ptr k 0) :: vs, ks =>
  if ks.contains k then Option.none else
  match zay objs vs (ks ++ [k]) with
  | some (r, ks', b) => some (.one (.ptr (zac + ks.length) 0) :: r, ks', b)
  | Option.none => Option.none
 | .one (.osl k g off n) :: vs, ks =>
  match objs k with
  | some (.arr _ sz g' m get) => if g = g' ∧ off + n ≤ m then
    match zay objs vs ks with
    | some (r, ks', _) => some (.one (.view sz n fun i => if i < n then get (off + i) else []) :: r, ks', true)
    | Option.none => Option.none
   else Option.none
  | _ => Option.none
 | v :: vs, ks =>
  if v.clean true then
   match zay objs vs ks with
   | some (r, ks', b) => some (v :: r, ks', b)
   | Option.none => Option.none
  else Option.none
def zcp (objs : Nat → Option Ob) : List Nat → Option (List (List Lf))
 | [] => some []
 | k :: ks => match objs k, zcp objs ks with
  | some (.cells cs), some l => if cs.all (Lf.clean true) then some (cs :: l) else Option.none
  | _, _ => Option.none
def zbc (objs : Nat → Option Ob) : List Nat → List (List Lf) → Option (Nat → Option Ob)
 | [], [] => some objs
 | k :: ks, cs :: l => zbc (upd objs k (some (.cells cs))) ks l
 | _, _ => Option.none
def zch : List Ob → Option (List (List Lf))
 | [] => some []
 | .cells cs :: os => (zch os).map (cs :: ·)
 | _ :: _ => Option.none
def zct (C : zaf) (wr : Bool) (objs : Nat → Option Ob) (f : FuncId) (args : List PV) : Option (PV × (Nat → Option Ob)) :=
 match zay objs args [] with
 | Option.none => Option.none
 | some (args', ks, rd) =>
  match (if wr || ks.isEmpty then zcp objs ks else Option.none) with
  | Option.none => Option.none
  | some os =>
   match C f args' (os.map .cells) with
   | Option.none => Option.none
   | some (res, ob') =>
    match zch ob' with
    | Option.none => Option.none
    | some os' =>
     if res.clean (!rd) && os'.all (fun cs => cs.all (Lf.clean (!rd))) && os'.length == os.length && ((os.zip os').all fun p => p.1.length == p.2.length) then
      match zbc objs ks os' with
      | Option.none => Option.none
      | some objs' => some (res, objs')
     else Option.none
def Lf.ren (km : Nat → Option Nat) (gm : Nat → Nat → Option Nat) : Lf → Option Lf
 | .val v => some (.val v)
 | .view sz n get => some (.view sz n get)
 | .ptr k off => (km k).map fun k' => .ptr k' off
 | .osl k g off n => match km k, gm k g with
  | some k', some g' => some (.osl k' g' off n)
  | _, _ => Option.none
 | .csl k sz off n => (km k).map fun k' => .csl k' sz off n
 | .mp k => (km k).map .mp
 | .fn f caps => (renL km gm caps).map (.fn f)
 | .eptr cs off => some (.eptr cs off)
 | .aptr k g i off => match km k, gm k g with
  | some k', some g' => some (.aptr k' g' i off)
  | _, _ => Option.none
where renL (km : Nat → Option Nat) (gm : Nat → Nat → Option Nat) : List Lf → Option (List Lf)
 | [] => some []
 | l :: ls => match l.ren km gm, renL km gm ls with
  | some a, some b => some (a :: b)
  | _, _ => Option.none
def PV.ren1 (km : Nat → Option Nat) (gm : Nat → Nat → Option Nat) : PV → Option PV
 | .one l => (l.ren km gm).map .one
 | .agg cs => (Lf.ren.renL km gm cs).map .agg
 | _ => Option.none
def zew (km : Nat → Option Nat) (gm : Nat → Nat → Option Nat) : List PV → Option (List PV)
 | [] => some []
 | p :: ps => match p.ren1 km gm, zew km gm ps with
  | some a, some b => some (a :: b)
  | _, _ => Option.none
def PV.ren (km : Nat → Option Nat) (gm : Nat → Nat → Option Nat) : PV → Option PV
 | .tup vs => (zew km gm vs).map .tup
 | p => p.ren1 km gm
def Ob.ren (km : Nat → Option Nat) (gm : Nat → Nat → Option Nat) (k : Nat) : Ob → Option Ob
 | .cells cs => (Lf.ren.renL km gm cs).map .cells
 | .tcells t cs => (Lf.ren.renL km gm cs).map (.tcells t)
 | .arr el sz g n get => (gm k g).map fun g' => .arr el sz g' n get
 | .map es => some (.map es)
def zfe (k : Nat) : List Nat → Nat → Option Nat
 | [], _ => Option.none
 | x :: xs, i => if Nat.beq x k then some i else zfe k xs (i + 1)
def kmUp (ks : List Nat) (k : Nat) : Option Nat := (zfe k ks 0).map (zac + ·)
def ageOf (objs : Nat → Option Ob) (k : Nat) : Option Nat :=
 match objs k with
 | some (.arr _ _ g _ _) => some g
 | _ => Option.none
def gmUp (objs : Nat → Option Ob) (k g : Nat) : Option Nat :=
 match ageOf objs k with
 | some g' => if g = g' then some 0 else Option.none
 | Option.none => Option.none
def kmDown (ks : List Nat) (k : Nat) : Option Nat := if Nat.ble zac k then ks[k - zac]? else Option.none
def dropB (fz : Bool) (m : Nat) (os : List Ob) (k : Nat) : Bool := fz && Nat.ble (zac + m) k && (match os[k - zac]? with | some (.arr ..) => true | _ => false)
def kmDn (fz : Bool) (m : Nat) (os : List Ob) (ks : List Nat) (k : Nat) : Option Nat := if dropB fz m os k then Option.none else kmDown ks k
def zce (objs : Nat → Option Ob) (ks : List Nat) (k g : Nat) : Option Nat :=
 match kmDown ks k with
 | some k' => match ageOf objs k' with
  | some g' => some (g' + g)
  | Option.none => some g
 | Option.none => Option.none
def zey (objs : Nat → Option Ob) (k g : Nat) : Option Nat :=
 match ageOf objs k with
 | some g' => if g = g' then some (if Nat.ble zac k then 1 else 0) else Option.none
 | Option.none => Option.none
def renOs (km : Nat → Option Nat) (gm : Nat → Nat → Option Nat) (objs : Nat → Option Ob) : List Nat → Option (List Ob)
 | [] => some []
 | k :: ks => match objs k, renOs km gm objs ks with
  | some o, some l => (o.ren km gm k).map (· :: l)
  | _, _ => Option.none
def readL (objs : Nat → Option Ob) : Lf → Option (Lf × List Nat)
 | .osl k g off n => match objs k with
  | some (.arr _ sz g' m get) => if g = g' ∧ off + n ≤ m then some (.view sz n fun i => if i < n then get (off + i) else [], [k]) else Option.none
  | _ => Option.none
 | .csl k sz off n => match objs k with
  | some (.cells cs) => if cs.all (Lf.clean true) then
    (if off + n * sz ≤ cs.length then some (.view sz n fun i => if i < n then (cs.drop (off + i * sz)).take sz else [], [k]) else Option.none)
   else some (.csl k sz off n, [])
  | _ => Option.none
 | l => some (l, [])
def readO (objs : Nat → Option Ob) : Lf → Option (Lf × List Nat)
 | .osl k g off n => readL objs (.osl k g off n)
 | l => some (l, [])
def readLs (objs : Nat → Option Ob) : List Lf → Option (List Lf × List Nat)
 | [] => some ([], [])
 | l :: ls => match readO objs l, readLs objs ls with
  | some (l', r), some (ls', rs) => some (l' :: ls', r ++ rs)
  | _, _ => Option.none
def zcf (objs : Nat → Option Ob) : List PV → Option (List PV × List Nat)
 | [] => some ([], [])
 | .one l :: ps => match readL objs l, zcf objs ps with
  | some (l', r), some (ps', rs) => some (.one l' :: ps', r ++ rs)
  | _, _ => Option.none
 | .agg cs :: ps => match readLs objs cs, zcf objs ps with
  | some (cs', r), some (ps', rs) => some (.agg cs' :: ps', r ++ rs)
  | _, _ => Option.none
 | p :: ps => match zcf objs ps with
  | some (ps', rs) => some (p :: ps', rs)
  | _ => Option.none
def Lf.flat : Lf → Bool
 | .view .. | .eptr .. => false
 | .fn _ caps => flatL caps
 | _ => true
where flatL : List Lf → Bool
 | [] => true
 | l :: ls => l.flat && flatL ls
def PV.flat : PV → Bool
 | .one l => l.flat
 | .agg cs => Lf.flat.flatL cs
 | .tup vs => flatT vs
 | .none => false
where flatT : List PV → Bool
 | [] => true
 | .one l :: vs => l.flat && flatT vs
 | .agg cs :: vs => Lf.flat.flatL cs && flatT vs
 | _ :: _ => false
def flatG (n : Nat) (get : Nat → List Lf) : Bool := (List.range n).all fun i => Lf.flat.flatL (get i)
def Ob.flat : Ob → Bool
 | .cells cs => Lf.flat.flatL cs
 | .tcells _ cs => Lf.flat.flatL cs
 | .arr _ _ _ n get => flatG n get
 | .map _ => false
def gbase : Nat := 300000
def zdd (objs : Nat → Option Ob) : List Nat → Nat → List Nat
 | _, 0 => []
 | [], _ => []
 | k :: fp, n + 1 => if Nat.ble gbase k && Nat.ble k 400000 && (objs k).isNone then k :: zdd objs fp n else zdd objs fp (n + 1)
def zbq : List Nat → Bool
 | [] => true
 | k :: ks => !ks.contains k && zbq ks
def Lf.frz (m : Nat) (os : List Ob) : Lf → Option Lf
 | .osl k g off n => if Nat.ble (zac + m) k then
   match os[k - zac]? with
   | some (.arr _ sz g' l get) => if g = g' ∧ off + n ≤ l then some (.view sz n fun i => if i < n then get (off + i) else []) else Option.none
   | _ => Option.none
  else some (.osl k g off n)
 | l => some l
def frzL (m : Nat) (os : List Ob) : List Lf → Option (List Lf)
 | [] => some []
 | l :: ls => match l.frz m os, frzL m os ls with
  | some a, some b => some (a :: b)
  | _, _ => Option.none
def PV.frz1 (m : Nat) (os : List Ob) : PV → Option PV
 | .one l => (l.frz m os).map .one
 | .agg cs => (frzL m os cs).map .agg
 | _ => Option.none
def frzPs (m : Nat) (os : List Ob) : List PV → Option (List PV)
 | [] => some []
 | p :: ps => match p.frz1 m os, frzPs m os ps with
  | some a, some b => some (a :: b)
  | _, _ => Option.none
def PV.frz (m : Nat) (os : List Ob) : PV → Option PV
 | .tup vs => (frzPs m os vs).map .tup
 | p => p.frz1 m os
def Ob.frz (m : Nat) (os : List Ob) : Ob → Option Ob
 | .cells cs => (frzL m os cs).map .cells
 | .tcells t cs => (frzL m os cs).map (.tcells t)
 | .arr el sz g n get => some (.arr el sz g n get)
 | .map es => some (.map es)
def frzOs (m : Nat) (os : List Ob) : List Ob → Option (List Ob)
 | [] => some []
 | o :: l => match o.frz m os, frzOs m os l with
  | some a, some b => some (a :: b)
  | _, _ => Option.none
def Ob.isArr : Ob → Bool
 | .arr .. => true
 | _ => false
def putOs (fz : Bool) (km : Nat → Option Nat) (gm : Nat → Nat → Option Nat) (objs : Nat → Option Ob) : Nat → Nat → List Nat → List Ob → Option (Nat → Option Ob)
 | _, _, [], [] => some objs
 | m, j, k :: ks, o :: os => match o.ren km gm (zac + j), putOs fz km gm objs m (j + 1) ks os with
  | some o', some r => some (if fz && o.isArr && Nat.ble m j then r else upd r k (some o'))
  | _, _ => Option.none
 | _, _, _, _ => Option.none
def cutO (fp : List Nat) (objs : Nat → Option Ob) : Nat → Option Ob := fun k => if fp.contains k then objs k else Option.none
def zdc (fp : List Nat) (objs objs' : Nat → Option Ob) : Nat → Option Ob := fun k => if fp.contains k then objs' k else objs k
def zgh (fz : Bool) (m : Nat) (res : PV) (os : List Ob) : Option (PV × List Ob) :=
 if fz then
  match res.frz m os, frzOs m os os with
  | some a, some b => some (a, b)
  | _, _ => Option.none
 else some (res, os)
def gcall0 (C : zaf) (ow fz : Bool) (fp : List Nat) (objs : Nat → Option Ob) (f : FuncId) (args : List PV) : Option (PV × (Nat → Option Ob)) :=
 match (if ow then some (args, []) else zcf objs args) with
 | Option.none => Option.none
 | some (args1, rks) =>
  let ks := zex objs 200 (args1.flatMap PV.keys) []
  if zbq ks && rks.all (fun k => !ks.contains k) then
   match zew (kmUp ks) (gmUp objs) args1, renOs (kmUp ks) (gmUp objs) objs ks with
   | some args2, some os =>
    match C f args2 os with
    | Option.none => Option.none
    | some (res, os') =>
     if Nat.ble os.length os'.length && (rks.isEmpty || (res.flat && os'.all Ob.flat)) then
      let new := zdd objs fp (os'.length - os.length)
      if zbq (ks ++ new) then
       match zgh fz os.length res os' with
       | some (res1, os1) =>
        match res1.ren (kmDn fz os.length os' (ks ++ new)) (zce objs (ks ++ new)), putOs fz (kmDn fz os.length os' (ks ++ new)) (zce objs (ks ++ new)) objs os.length 0 (ks ++ new) os1 with
        | some r, some objs' => some (r, objs')
        | _, _ => Option.none
       | Option.none => Option.none
      else Option.none
     else Option.none
   | _, _ => Option.none
  else Option.none
def zby (C : zaf) (ow fz : Bool) (fp : List Nat) (objs : Nat → Option Ob) (f : FuncId) (args : List PV) : Option (PV × (Nat → Option Ob)) :=
 (gcall0 C ow fz fp (cutO fp objs) f args).map fun r => (r.1, zdc fp objs r.2)
def fixM : Nat := 1000000000
def zbj (d i : Nat) : Nat := 400000 + d * 8 + i
def zfh (d : Nat) : Nat → List (Nat × TypeId × Nat) → List Lf → (Nat → Option Ob) → Option (List Lf × (Nat → Option Ob))
 | _, [], cs, objs => some (cs, objs)
 | i, (off, el, sz) :: ow, cs, objs => match cs[off]? with
  | some (.val (.slice Option.none 0 0)) =>
   if Nat.ble fixM el then
    match zfh d (i + 1) ow cs objs with
    | some (cs', objs') => some (cs'.set off (.view sz 0 fun _ => []), objs')
    | Option.none => Option.none
   else if (objs (zbj d i)).isNone && Nat.ble (zbj d i + 1) zac && Nat.ble 1 sz then
    match zfh d (i + 1) ow cs objs with
    | some (cs', objs') => if (objs' (zbj d i)).isNone then some (cs'.set off (.osl (zbj d i) 0 0 0), upd objs' (zbj d i) (some (.arr el sz 0 0 fun _ => []))) else Option.none
    | Option.none => Option.none
   else Option.none
  | _ => zfh d (i + 1) ow cs objs
def zae : Nat := 70368744177664
def appP (objs : Nat → Option Ob) (d : Nat) (el esz bytes : Nat) (s : PV) (m : Nat) (xget : Nat → List Lf) : Option (PV × (Nat → Option Ob)) :=
 match s with
 | .one (.val (.slice Option.none 0 0)) =>
  if m * bytes ≤ zae ∧ m ≤ zae ∧ d < zac then
   match objs d with
   | Option.none => some (.one (.osl d 0 0 m), upd objs d (some (.arr el esz 0 m xget)))
   | some _ => Option.none
  else Option.none
 | .one (.osl k g 0 n) =>
  match objs k with
  | some (.arr el' esz' g' n' get) =>
   if g = g' ∧ n = n' ∧ el = el' ∧ esz = esz' ∧ (n + m) * bytes ≤ zae ∧ n + m ≤ zae then
    some (.one (.osl k (g + 1) 0 (n + m)), upd objs k (some (.arr el esz (g + 1) (n + m)
     (if m = 1 then (fun i => if i = n then xget 0 else get i) else (fun i => if i < n then get i else xget (i - n))))))
   else Option.none
  | _ => Option.none
 | _ => Option.none
def takeO (to : Nat) : PV × (Nat → Option Ob) → Option (PV × (Nat → Option Ob))
 | (.one (.osl k g 0 n), objs) => match objs k, objs to with
  | some (.arr el sz g1 n1 get), some (.arr el2 sz2 g2 _ _) =>
   if g = g1 ∧ n = n1 ∧ el = el2 ∧ sz = sz2 ∧ k ≠ to ∧ k < zac then
    some (.one (.osl to (g2 + 1) 0 n), upd (upd objs k (some (.arr el sz (g1 + 1) 0 fun _ => []))) to (some (.arr el sz (g2 + 1) n get)))
   else Option.none
  | _, _ => Option.none
 | _ => Option.none
def freezeO : PV × (Nat → Option Ob) → Option (PV × (Nat → Option Ob))
 | (.one (.osl k g 0 n), objs) => match objs k with
  | some (.arr el sz g1 n1 get) => if g = g1 ∧ n = n1 ∧ k < zac then some (.one (.view sz n fun i => if i < n then get (0 + i) else []), upd objs k (some (.arr el sz (g1 + 1) 0 fun _ => []))) else Option.none
  | _ => Option.none
 | _ => Option.none
def mkeyOf (P : Program) (mt : TypeId) : Option (TypeId × TypeId) :=
 match P.underlying mt with
 | some (.map k e) => match P.underlying k with
  | some (.struct _) => some (k, e)
  | _ => Option.none
 | _ => Option.none
def findP (P : Program) (kt : TypeId) (k : Value) : List (PV × PV) → Nat → Option (Option (Nat × PV × PV))
 | [], _ => some Option.none
 | e :: es, i => match e.1.toVal with
  | some k' => match prun P (Op.equal kt k k') with
   | some true => some (some (i, e))
   | some false => findP P kt k es (i + 1)
   | Option.none => Option.none
  | Option.none => Option.none
def PV.single : PV → Bool
 | .tup _ => false
 | _ => true
def mres (ok : Bool) (v : PV) (b : Bool) : PV := if ok then .tup [v, .one (.val (.bool b))] else v
def zeg (get : Nat → List Lf) : Nat → Option (List Int)
 | 0 => some []
 | n + 1 => match zeg get n, get n with
  | some l, [.val (.int .u8 a)] => some (l ++ [a])
  | _, _ => Option.none
def mkStr (ns : List Int) : ByteArray := ns.foldl (fun r n => r.push (UInt8.ofNat n.toNat)) ByteArray.empty
def zdg (s : ByteArray) : List Int := s.data.toList.map fun b => (b.toNat : Int)
def eff (P : Program) (C : zaf) (st : St) (dst : Option Nat) : POp → Option (PV × (Nat → Option Ob))
 | .mv x => some (st.ev x, st.objs)
 | .pick c a b => match st.ev c with
  | .one (.val (.bool t)) => some (if t then st.ev a else st.ev b, st.objs)
  | _ => Option.none
 | .prim p xs => match PV.toVals (evs st xs) with
  | some vs => match prun P (p.sem vs) with
   | some v => some (PV.ofVal v, st.objs)
   | Option.none => Option.none
  | Option.none => Option.none
 | .alloc _ z ow => match dst with
  | some d => match st.objs d, (PV.ofVal z).cells with
   | Option.none, some cs => match zfh d 0 ow cs st.objs with
    | some (cs', objs') => if (objs' d).isNone then some (.one (.ptr d 0), upd objs' d (some (.cells cs'))) else Option.none
    | Option.none => Option.none
   | _, _ => Option.none
  | Option.none => Option.none
 | .allocT el z ow => match dst with
  | some d => match st.objs d, (PV.ofVal z).cells with
   | Option.none, some cs => match zfh d 0 ow cs st.objs with
    | some (cs', objs') => if (objs' d).isNone then some (.one (.ptr d 0), upd objs' d (some (.tcells el cs'))) else Option.none
    | Option.none => Option.none
   | _, _ => Option.none
  | Option.none => Option.none
 | .box _ x ow => match dst with
  | some d => match st.objs d, (st.ev x).cells with
   | Option.none, some cs => match zfh d 0 ow cs st.objs with
    | some (cs', objs') => if (objs' d).isNone then some (.one (.ptr d 0), upd objs' d (some (.cells cs'))) else Option.none
    | Option.none => Option.none
   | _, _ => Option.none
  | Option.none => Option.none
 | .load ag sz x => match st.ev x with
  | .one (.ptr k off) => match st.objs k with
   | some (.cells cs) => (rdc ag sz cs off).map fun v => (v, st.objs)
   | _ => Option.none
  | .one (.eptr cs off) => (rdc ag sz cs off).map fun v => (v, st.objs)
  | .one (.aptr k g i off) => match st.objs k with
   | some (.arr _ _ g' n get) => if g = g' ∧ i < n then (rdc ag sz (get i) off).map fun v => (v, st.objs) else Option.none
   | _ => Option.none
  | _ => Option.none
 | .store sz a x => match (st.ev x).cells with
  | Option.none => Option.none
  | some new => match st.ev a with
   | .one (.ptr k off) => match st.objs k with
    | some (.cells cs) => if new.length = sz ∧ off + sz ≤ cs.length then some (.none, upd st.objs k (some (.cells (zau cs off new)))) else Option.none
    | _ => Option.none
   | .one (.aptr k g i off) => match st.objs k with
    | some (.arr el esz g' n get) => if g = g' ∧ i < n ∧ new.length = sz ∧ off + sz ≤ esz ∧ new.all (Lf.clean true) then
      some (.none, upd st.objs k (some (.arr el esz g' n fun j => if j = i then zau (get i) off new else get j))) else Option.none
    | _ => Option.none
   | _ => Option.none
 | .nilc x => match st.ev x with
  | .one (.ptr k o) => some (.one (.ptr k o), st.objs)
  | .one (.eptr cs o) => some (.one (.eptr cs o), st.objs)
  | .one (.aptr k g i o) => some (.one (.aptr k g i o), st.objs)
  | _ => Option.none
 | .faddr off x => match st.ev x with
  | .one (.ptr k o) => some (.one (.ptr k (o + off)), st.objs)
  | .one (.eptr cs o) => some (.one (.eptr cs (o + off)), st.objs)
  | .one (.aptr k g i o) => some (.one (.aptr k g i (o + off)), st.objs)
  | _ => Option.none
 | .iaddrA len esz x i => match (st.ev i).int? with
  | some n => if 0 ≤ n ∧ n < len then
    match st.ev x with
    | .one (.ptr k o) => some (.one (.ptr k (o + n.toNat * esz)), st.objs)
    | .one (.eptr cs o) => some (.one (.eptr cs (o + n.toNat * esz)), st.objs)
    | .one (.aptr k g j o) => some (.one (.aptr k g j (o + n.toNat * esz)), st.objs)
    | _ => Option.none
   else Option.none
  | Option.none => Option.none
 | .iaddrS esz x i => match (st.ev i).int? with
  | some n => match st.ev x with
   | .one (.view sz m get) => if sz = esz ∧ 0 ≤ n ∧ n < m then some (.one (.eptr (get n.toNat) 0), st.objs) else Option.none
   | .one (.osl k g off m) => match st.objs k with
    | some (.arr _ sz g' tot _) => if g = g' ∧ sz = esz ∧ off + m ≤ tot ∧ 0 ≤ n ∧ n < m then some (.one (.aptr k g (off + n.toNat) 0), st.objs) else Option.none
    | _ => Option.none
   | .one (.csl k sz off m) => if sz = esz ∧ 0 ≤ n ∧ n < m then some (.one (.ptr k (off + n.toNat * esz)), st.objs) else Option.none
   | _ => Option.none
  | Option.none => Option.none
 | .bslice _ esz parts => match zez st esz parts with
  | some l => if l.all (fun cs => cs.all (Lf.clean true)) then some (.one (.view esz l.length fun i => l.getD i []), st.objs) else Option.none
  | Option.none => Option.none
 | .build z parts => match (PV.ofVal z).cells with
  | some cs => (fillP st cs parts).map fun r => (.agg r, st.objs)
  | Option.none => Option.none
 | .buildV nl z parts => match (PV.ofVal z).cells with
  | some cs => (fillP st cs parts).map fun r => (nilP nl (.agg r), st.objs)
  | Option.none => Option.none
 | .fld ag off sz x => match st.ev x with
  | .agg cs => (rdc ag sz cs off).map fun v => (v, st.objs)
  | _ => Option.none
 | .idx ag esz len x i => match st.ev x, (st.ev i).int? with
  | .agg cs, some n => if 0 ≤ n ∧ n < len then (rdc ag esz cs (n.toNat * esz)).map fun v => (v, st.objs) else Option.none
  | _, _ => Option.none
 | .ext x i => match st.ev x with
  | .tup vs => (vs[i]?).map fun v => (v, st.objs)
  | _ => Option.none
 | .slc esz x lo hi => match st.ev x with
  | .one (.view sz n get) => match bound? st 0 lo, bound? st n hi with
   | some l, some h => if sz = esz ∧ l ≤ h ∧ h ≤ n then some (.one (.view sz (h - l) fun i => if i < h - l then get (l + i) else []), st.objs) else Option.none
   | _, _ => Option.none
  | .one (.osl k g off n) => match bound? st 0 lo, bound? st n hi with
   | some l, some h => match st.objs k with
    | some (.arr _ sz g' tot _) => if g = g' ∧ sz = esz ∧ off + n ≤ tot ∧ l ≤ h ∧ h ≤ n then some (.one (.osl k g (off + l) (h - l)), st.objs) else Option.none
    | _ => Option.none
   | _, _ => Option.none
  | .one (.val (.slice Option.none 0 0)) => match bound? st 0 lo, bound? st 0 hi with
   | some l, some h => if l = 0 ∧ h = 0 then some (.one (.val (.slice Option.none 0 0)), st.objs) else Option.none
   | _, _ => Option.none
  | _ => Option.none
 | .app key el esz bytes s x => match st.ev x with
  | .one (.view sz m xget) => if sz = esz then appP st.objs key el esz bytes (st.ev s) m xget else Option.none
  | .one (.osl k g off m) => match st.objs k with
   | some (.arr _ sz g' tot xget) => if g = g' ∧ sz = esz ∧ off + m ≤ tot then appP st.objs key el esz bytes (st.ev s) m (fun i => if i < m then xget (off + i) else []) else Option.none
   | _ => Option.none
  | .one (.val (.slice Option.none 0 0)) => match st.ev s with
   | .one (.val (.slice Option.none 0 0)) => some (.one (.val (.slice Option.none 0 0)), st.objs)
   | .one (.osl k g off n) => match st.objs k with
    | some (.arr _ _ g' tot _) => if g = g' ∧ off + n ≤ tot then some (.one (.osl k g off n), st.objs) else Option.none
    | _ => Option.none
   | _ => Option.none
  | _ => Option.none
 | .lenS x => match st.ev x with
  | .one (.view _ n _) => some (.one (.val (.int .i64 n)), st.objs)
  | .one (.osl _ _ _ n) => some (.one (.val (.int .i64 n)), st.objs)
  | .one (.csl _ _ _ n) => some (.one (.val (.int .i64 n)), st.objs)
  | .one (.val (.slice _ n _)) => some (.one (.val (.int .i64 n)), st.objs)
  | _ => Option.none
 | .b2s x => match st.ev x with
  | .one (.view sz m get) => if sz = 1 then (zeg get m).map fun ns => (.one (.val (.string (mkStr ns))), st.objs) else Option.none
  | .one (.osl k g off m) => match st.objs k with
   | some (.arr _ sz g' tot get) => if g = g' ∧ sz = 1 ∧ off + m ≤ tot then (zeg (fun i => if i < m then get (off + i) else []) m).map fun ns => (.one (.val (.string (mkStr ns))), st.objs) else Option.none
   | _ => Option.none
  | .one (.val (.slice Option.none 0 0)) => some (.one (.val (.string ByteArray.empty)), st.objs)
  | _ => Option.none
 | .s2b _ x => match st.ev x with
  | .one (.val (.string s)) => some (.one (.view 1 s.size fun i => ((zdg s).map fun b => [Lf.val (.int .u8 b)]).getD i []), st.objs)
  | _ => Option.none
 | .mkfn f caps => match onesL st caps with
  | some l => some (.one (.fn f l), st.objs)
  | Option.none => Option.none
 | .call wr nl f args => zct C wr st.objs f (nilA nl (evs st args))
 | .callv wr nl x args => match st.ev x with
  | .one (.fn f caps) => zct C wr st.objs f (nilA nl (evs st args) ++ caps.map .one)
  | .one (.val (.func (.func f) first captured)) => if first.toList.length = 0 ∧ captured.toList.length = 0 then zct C wr st.objs f (nilA nl (evs st args)) else Option.none
  | _ => Option.none
 | .gcall ow fz fp nl f args => zby C ow fz fp st.objs f (nilA nl (evs st args))
 | .gcallv ow fz fp nl x args => match st.ev x with
  | .one (.fn f caps) => zby C ow fz fp st.objs f (nilA nl (evs st args) ++ caps.map .one)
  | .one (.val (.func (.func f) first captured)) => if first.toList.length = 0 ∧ captured.toList.length = 0 then zby C ow fz fp st.objs f (nilA nl (evs st args)) else Option.none
  | _ => Option.none
 | .slcA len esz x lo hi => match st.ev x with
  | .one (.ptr k off) => match bound? st 0 lo, bound? st len hi with
   | some l, some h => if l ≤ h ∧ h ≤ len ∧ (l = 0 ∨ l < len) then some (.one (.csl k esz (off + l * esz) (h - l)), st.objs) else Option.none
   | _, _ => Option.none
  | _ => Option.none
 | .pnil neg x => match st.ev x with
  | .one (.ptr _ _) => some (.one (.val (.bool neg)), st.objs)
  | .one (.eptr _ _) => some (.one (.val (.bool neg)), st.objs)
  | .one (.aptr _ _ _ _) => some (.one (.val (.bool neg)), st.objs)
  | .one (.val (.pointer Option.none)) => some (.one (.val (.bool (!neg))), st.objs)
  | _ => Option.none
 | .bptrs esz parts => match dst with
  | some d => match st.objs d, zez st esz parts with
   | Option.none, some l => some (.one (.csl d esz 0 l.length), upd st.objs d (some (.cells l.flatten)))
   | _, _ => Option.none
  | Option.none => Option.none
 | .bown el esz parts => match dst with
  | some d => match st.objs d, zez st esz parts with
   | Option.none, some l => if l.all (fun cs => cs.all (Lf.clean true)) && Nat.ble (d + 1) zac then some (.one (.osl d 0 0 l.length), upd st.objs d (some (.arr el esz 0 l.length fun i => l.getD i []))) else Option.none
   | _, _ => Option.none
  | Option.none => Option.none
 | .s2bo el x => match dst with
  | some d => match st.objs d, st.ev x with
   | Option.none, .one (.val (.string s)) => if Nat.ble (d + 1) zac then some (.one (.osl d 0 0 s.size), upd st.objs d (some (.arr (fixM + el) 1 0 s.size fun i => ((zdg s).map fun b => [Lf.val (.int .u8 b)]).getD i []))) else Option.none
   | _, _ => Option.none
  | Option.none => Option.none
 | .mmake => match dst with
  | some d => match st.objs d with
   | Option.none => if Nat.ble (d + 1) zac then some (.one (.mp d), upd st.objs d (some (.map []))) else Option.none
   | some _ => Option.none
  | Option.none => Option.none
 | .mlook ok mt nl x k => match st.ev x, (st.ev k).toVal, mkeyOf P mt with
  | .one (.mp m), some kv, some (kt, e) => match st.objs m with
   | some (.map es) => match prun P (Instr.checkKey es.isEmpty 10000 kt kv), findP P kt kv es 0 with
    | some _, some (some (_, _, v)) => some (mres ok (nilP nl v) true, st.objs)
    | some _, some Option.none => match prun P (zeroValue e) with
     | some z => some (mres ok (nilP nl (PV.ofVal z)) false, st.objs)
     | Option.none => Option.none
    | _, _ => Option.none
   | _ => Option.none
  | _, _, _ => Option.none
 | .mset mt x k v => match st.ev x, (st.ev k).toVal, mkeyOf P mt with
  | .one (.mp m), some kv, some (kt, _) => match st.objs m with
   | some (.map es) => if (st.ev v).clean true && (st.ev v).single then
     match prun P (Instr.checkKey false 10000 kt kv), findP P kt kv es 0 with
     | some _, some (some (i, k', _)) => match k'.toVal with
      | some kv' => if Instr.sameBits 10000 kv' kv then some (.none, upd st.objs m (some (.map (es.set i (st.ev k, st.ev v))))) else Option.none
      | Option.none => Option.none
     | some _, some Option.none => some (.none, upd st.objs m (some (.map (es ++ [(st.ev k, st.ev v)]))))
     | _, _ => Option.none
    else Option.none
   | _ => Option.none
  | _, _, _ => Option.none
 | .mdel mt x k => match st.ev x, (st.ev k).toVal, mkeyOf P mt with
  | .one (.mp m), some kv, some (kt, _) => match st.objs m with
   | some (.map es) => match prun P (Instr.checkKey es.isEmpty 10000 kt kv), findP P kt kv es 0 with
    | some _, some (some (i, _)) => some (.tup [], upd st.objs m (some (.map (es.eraseIdx i))))
    | some _, some Option.none => some (.tup [], upd st.objs m (some (.map es)))
    | _, _ => Option.none
   | _ => Option.none
  | _, _, _ => Option.none
 | .mlen x => match st.ev x with
  | .one (.mp m) => match st.objs m with
   | some (.map es) => some (.one (.val (.int .i64 es.length)), st.objs)
   | _ => Option.none
  | _ => Option.none
 | .storeV nl sz a x => match (nilP nl (st.ev x)).cells with
  | Option.none => Option.none
  | some new => match st.ev a with
   | .one (.ptr k off) => match st.objs k with
    | some (.cells cs) => if new.length = sz ∧ off + sz ≤ cs.length then some (.none, upd st.objs k (some (.cells (zau cs off new)))) else Option.none
    | _ => Option.none
   | .one (.aptr k g i off) => match st.objs k with
    | some (.arr el esz g' n get) => if g = g' ∧ i < n ∧ new.length = sz ∧ off + sz ≤ esz ∧ new.all (Lf.clean true) then
      some (.none, upd st.objs k (some (.arr el esz g' n fun j => if j = i then zau (get i) off new else get j))) else Option.none
    | _ => Option.none
   | _ => Option.none
 | .appF el esz bytes s x => match st.ev s, st.ev x with
  | .one (.osl k g 0 n), .one (.view sz m xget) => if sz = esz then
    match appP st.objs k el esz bytes (.one (.osl k g 0 n)) m xget with
    | some r => freezeO r
    | Option.none => Option.none
   else Option.none
  | _, _ => Option.none
 | .appT to el esz bytes s x => match st.ev s, st.ev x with
  | .one (.osl k g 0 n), .one (.osl k2 g2 off m) => match st.objs k2 with
   | some (.arr _ sz g' tot xget) => if k ≠ k2 ∧ g2 = g' ∧ sz = esz ∧ off + m ≤ tot then
     match appP st.objs k el esz bytes (.one (.osl k g 0 n)) m (fun i => if i < m then xget (off + i) else []) with
     | some r => takeO to r
     | Option.none => Option.none
    else Option.none
   | _ => Option.none
  | _, _ => Option.none
def Hint.ok : Hint → PV → Bool
 | .imm, .one (.eptr _ _) => true
 | .imm, p => p.clean true
 | .at_ k off, .one (.ptr k' o') => k == k' && off == o'
 | .obj k, .one (.ptr k' _) => k == k'
 | .obj k, .one (.osl k' _ _ _) => k == k'
 | .obj k, .one (.aptr k' _ _ _) => k == k'
 | .obj k, .one (.csl k' _ _ _) => k == k'
 | .obj k, .one (.mp k') => k == k'
 | .obj _, .one (.val (.slice Option.none 0 0)) => true
 | _, _ => false
def okH : List (Nat × Hint) → St → Bool
 | [], _ => true
 | (t, h) :: hs, st => h.ok (st.tmps t) && okH hs st
def effH (P : Program) (C : zaf) (st : St) (o : POper) : Option (PV × (Nat → Option Ob)) :=
 if okH o.hints st = true then eff P C st o.dst o.op else Option.none
def pOp (P : Program) (C : zaf) (o : POper) (st : St) : Option St :=
 match o.guard with
 | Option.none => match effH P C st o with
  | some (v, objs) => some ({ st with objs := objs }.put o.dst v)
  | Option.none => Option.none
 | some (g, b) => match st.tmps g with
  | .one (.val (.bool t)) => if t = b then
    match effH P C st o with
    | some (v, objs) => some ({ st with objs := objs }.put o.dst v)
    | Option.none => Option.none
   else some (st.put o.dst (.tup []))
  | .tup [] => some (st.put o.dst (.tup []))
  | _ => Option.none
def pOps (P : Program) (C : zaf) : List POper → St → Option St
 | [], st => some st
 | o :: os, st => match pOp P C o st with
  | some st' => pOps P C os st'
  | Option.none => Option.none
def swp (a b k : Nat) : Nat := if Nat.beq k a then b else if Nat.beq k b then a else k
def Lf.sw (r : Nat → Nat) : Lf → Lf
 | .ptr k o => .ptr (r k) o
 | .aptr k g i o => .aptr (r k) g i o
 | .osl k g o n => .osl (r k) g o n
 | .csl k s o n => .csl (r k) s o n
 | .mp k => .mp (r k)
 | .fn f caps => .fn f (swL r caps)
 | l => l
where swL (r : Nat → Nat) : List Lf → List Lf
 | [] => []
 | l :: ls => l.sw r :: swL r ls
def PV.sw (r : Nat → Nat) : PV → PV
 | .one l => .one (l.sw r)
 | .agg cs => .agg (Lf.sw.swL r cs)
 | _ => .none
def Ob.sw (r : Nat → Nat) : Ob → Ob
 | .cells cs => .cells (Lf.sw.swL r cs)
 | .tcells t cs => .tcells t (Lf.sw.swL r cs)
 | o => o
def swSt (a b : Nat) (st : St) : St := ⟨fun t => (st.tmps t).sw (swp a b), fun k => (st.objs (swp a b k)).map (Ob.sw (swp a b))⟩
def ownOne (st : St) : OwnE → St
 | (false, t, i, key, el, sz) => if Nat.ble fixM el then
   if (st.objs key).isNone && (st.objs t).isSome && Nat.ble (key + 1) zac && Nat.ble (t + 1) zac then swSt t key st else st
  else if (st.objs key).isNone && Nat.ble (key + 1) zac && Nat.ble 1 sz then
   match st.tmps t with
   | .one (.val (.slice Option.none 0 0)) => if Nat.beq i 0 then ⟨upd st.tmps t (.one (.osl key 0 0 0)), upd st.objs key (some (.arr el sz 0 0 fun _ => []))⟩ else st
   | .agg cs => match cs[i]? with
    | some (.val (.slice Option.none 0 0)) => ⟨upd st.tmps t (.agg (cs.set i (.osl key 0 0 0))), upd st.objs key (some (.arr el sz 0 0 fun _ => []))⟩
    | _ => st
   | _ => st
  else st
 | (true, k, i, key, el, sz) => if (st.objs key).isNone && Nat.ble (key + 1) zac && Nat.ble 1 sz then
   match st.objs k with
   | some (.cells cs) => match cs[i]? with
    | some (.val (.slice Option.none 0 0)) => ⟨st.tmps, upd (upd st.objs key (some (.arr el sz 0 0 fun _ => []))) k (some (.cells (cs.set i (.osl key 0 0 0))))⟩
    | _ => st
   | _ => st
  else st
def ownAll : List OwnE → St → St
 | [], st => st
 | e :: es, st => ownAll es (ownOne st e)
def PV.ren0 (km : Nat → Option Nat) (gm : Nat → Nat → Option Nat) : PV → Option PV
 | .none => some .none
 | p => p.ren1 km gm
def ageT (gm : Nat → Nat → Option Nat) (st : St) : List Nat → Option (List (Nat × PV))
 | [] => some []
 | t :: ts => match (st.tmps t).ren0 some gm, ageT gm st ts with
  | some v, some l => some ((t, v) :: l)
  | _, _ => Option.none
def ageO (gm : Nat → Nat → Option Nat) (st : St) : List Nat → Option (List (Nat × Option Ob))
 | [] => some []
 | k :: ks => match st.objs k with
  | Option.none => ageO gm st ks
  | some o => match o.ren some gm k, ageO gm st ks with
   | some o', some l => some ((k, some o') :: l)
   | _, _ => Option.none
def St.restrict (st : St) (ts os : List Nat) (ow : List OwnE) : Option St :=
 match zgb st ts (liveO st ts os) with
 | Option.none => Option.none
 | some st1 =>
  let st2 := ownAll ow st1
  if ow.all (fun e => os.contains e.2.2.2.1) then
  match ageT (zey st2.objs) st2 ts, ageO (zey st2.objs) st2 os with
  | some L, some M => some ⟨ofl L, oflO M⟩
  | _, _ => Option.none
  else Option.none
inductive PEx where
 | normal
 | exit (id : Nat)
 | ret
def iter (f : St → Option (PEx × St)) : Nat → St → Option (PEx × St)
 | 0, _ => Option.none
 | n + 1, st => match f st with
  | some (.normal, st') => iter f n st'
  | r => r
def zal (P : Program) (C : zaf) (n : Nat) : PCode → St → Option (PEx × St)
 | .skip, st => some (.normal, st)
 | .region keep _ ops, st =>
  match (match keep with | Option.none => some st | some (ts, os, ow) => st.restrict ts os ow) with
  | Option.none => Option.none
  | some st' => match pOps P C ops st' with
   | some st'' => some (.normal, st'')
   | Option.none => Option.none
 | .seq a b, st => match zal P C n a st with
  | some (.normal, st') => zal P C n b st'
  | r => r
 | .cond c a b, st => match st.ev c with
  | .one (.val (.bool t)) => if t then zal P C n a st else zal P C n b st
  | _ => Option.none
 | .block id c, st => match zal P C n c st with
  | some (.exit id', st') => if id' = id then some (.normal, st') else some (.exit id', st')
  | r => r
 | .loop c, st => iter (zal P C n c) n st
 | .exit id, st => some (.exit id, st)
 | .scope c, st => zal P C n c st
 | .label, st => some (.normal, st)
 | .ret, st => some (.ret, st)
inductive PRes where
 | tmp (t : Nat) (nl : List (Nat × Nat))
 | cell (a : Nat) (ag : Bool) (sz : Nat) (nl : List (Nat × Nat))
structure PFunc where
 ntmps : Nat
 results : List PRes
 body : PCode
 ex : Bool
def Lf.fin (ex : Bool) (objs : Nat → Option Ob) : Lf → Option Lf
 | .osl k g off n => if ex || Nat.ble zac k then some (.osl k g off n) else
  match objs k with
  | some (.arr _ sz g' m get) => if g = g' ∧ off + n ≤ m then some (.view sz n fun i => if i < n then get (off + i) else []) else Option.none
  | _ => Option.none
 | .eptr _ _ => Option.none
 | .aptr _ _ _ _ => Option.none
 | l => some l
def finL (ex : Bool) (objs : Nat → Option Ob) : List Lf → Option (List Lf)
 | [] => some []
 | l :: ls => match l.fin ex objs, finL ex objs ls with
  | some a, some b => some (a :: b)
  | _, _ => Option.none
def PV.fin (ex : Bool) (objs : Nat → Option Ob) : PV → Option PV
 | .one l => (l.fin ex objs).map .one
 | .agg cs => (finL ex objs cs).map .agg
 | _ => Option.none
def Ob.fin (ex : Bool) (objs : Nat → Option Ob) : Ob → Option Ob
 | .cells cs => (finL ex objs cs).map .cells
 | .tcells t cs => (finL ex objs cs).map (.tcells t)
 | .arr el sz g n get => some (.arr el sz g n get)
 | .map es => some (.map es)
def resOf (ex : Bool) (st : St) : PRes → Option PV
 | .tmp t nl => ((st.tmps t).fin ex st.objs).map (nilP nl)
 | .cell a ag sz nl => match st.tmps a with
  | .one (.ptr k off) => match st.objs k with
   | some (.cells cs) => match rdc ag sz cs off with
    | some v => (v.fin ex st.objs).map (nilP nl)
    | Option.none => Option.none
   | _ => Option.none
  | _ => Option.none
def zdu (ex : Bool) (st : St) : List PRes → Option (List PV)
 | [] => some []
 | r :: rs => match resOf ex st r, zdu ex st rs with
  | some a, some b => some (a :: b)
  | _, _ => Option.none
def finO (ex : Bool) (objs : Nat → Option Ob) (k : Nat) : Option Ob :=
 match objs k with
 | some o => o.fin ex objs
 | Option.none => Option.none
def passed (m : Nat) : List Nat := (List.range m).map (zac + ·)
def outKeys (fo : Nat → Option Ob) (m : Nat) (vs : List PV) : List Nat :=
 zex fo 200 (vs.flatMap PV.keys ++ (passed m).flatMap fun k => match fo k with | some o => o.keys | Option.none => []) (passed m)
def one? : List PV → PV
 | [v] => v
 | vs => .tup vs
def outOf (ex : Bool) (st : St) (rs : List PRes) (m : Nat) : Option (PV × List Ob) :=
 match zdu ex st rs with
 | Option.none => Option.none
 | some vs =>
  let fo := finO ex st.objs
  let ks := outKeys fo m vs
  if zbq ks && (ex || ks.all fun k => Nat.ble zac k || (match fo k with | some (.arr ..) => false | _ => true)) then
   match zew (kmUp ks) (zey st.objs) vs, renOs (kmUp ks) (zey st.objs) fo ks with
   | some vs', some os => some (one? vs', os)
   | _, _ => Option.none
  else Option.none
def Ob.young : Ob → Bool
 | .arr _ _ g _ _ => Nat.beq g 0
 | _ => true
def zcs (P : Program) (C : zaf) (n : Nat) (pf : PFunc) (args : List PV) (os : List Ob) : Option (PV × List Ob) :=
 match zal P C n pf.body { tmps := fun t => args.getD t .none, objs := zag os } with
 | some (.exit _, _) => Option.none
 | some (_, st) => if os.all Ob.young then outOf pf.ex st pf.results os.length else Option.none
 | Option.none => Option.none
end Go.Rx
