/-
  Queries, plain: tokens, and the parser on tokens. No program in it.
-/
import Derived.Lib.AtoiAll
namespace Qy
open Go

abbrev Bs := List UInt8
/-- A token: its bytes, its offset. -/
structure Tok where
  text : Bs
  at_ : Nat
/-- A region. -/
inductive Reg where
  | mk (kind : Int) (name : Bs) (ax ay b0 b1 b2 b3 : Int) (kids : List Reg)
def Reg.kind : Reg → Int | .mk k _ _ _ _ _ _ _ _ => k
def Reg.name : Reg → Bs | .mk _ n _ _ _ _ _ _ _ => n
def Reg.kids : Reg → List Reg | .mk _ _ _ _ _ _ _ _ l => l
def isL (c : UInt8) : Bool := decide (97 ≤ c.toNat) && decide (c.toNat ≤ 122)
def isD (c : UInt8) : Bool := decide (48 ≤ c.toNat) && decide (c.toNat ≤ 57)
def isW (c : UInt8) : Bool := isL c || isD c || c == 45
/-- What goes on with a token that begins with c. -/
def more (c : UInt8) : UInt8 → Bool := if isL c then isW else if isD c || c == 45 then isD else fun _ => false
theorem drop_le (p : UInt8 → Bool) (l : Bs) : (l.dropWhile p).length ≤ l.length := by
  induction l with
  | nil => exact Nat.le_refl _
  | cons c l ih =>
    rw [List.dropWhile_cons]
    split
    · exact Nat.le_succ_of_le ih
    · exact Nat.le_refl _
/-- The tokens of the bytes s, that stand from i on. -/
def toks (s : Bs) (i : Nat) : List Tok :=
  match s with
  | [] => [⟨[], i⟩]
  | c :: s => if c = 32 then toks s (i + 1) else ⟨c :: s.takeWhile (more c), i⟩ :: toks (s.dropWhile (more c)) (i + 1 + (s.takeWhile (more c)).length)
termination_by s.length
decreasing_by
  · simp
  · simp only [List.length_cons]
    exact Nat.lt_succ_of_le (drop_le _ _)
/-- What is read: a result and the tokens behind it; or an error at an offset. -/
inductive Res (α : Type) where
  | ok (a : α) (l : List Tok)
  | bad (at_ : Nat) (e : Int)
def Res.on {α β : Type} (r : Res α) (f : α → List Tok → Res β) : Res β := match r with
  | .ok a l => f a l
  | .bad x e => .bad x e
def hd : List Tok → Bs
  | [] => []
  | t :: _ => t.text
def hdAt : List Tok → Nat
  | [] => 0
  | t :: _ => t.at_
/-- The next token; the last one stays. -/
def stp : List Tok → List Tok
  | _ :: u :: r => u :: r
  | l => l
def need (s : Bs) (l : List Tok) : Res Unit := if hd l = s then .ok () (stp l) else .bad (hdAt l) 2
def digs : Bs → Bs
  | 45 :: r => r
  | t => t
def numOK (t : Bs) : Bool := decide (1 ≤ (digs t).length) && decide ((digs t).length ≤ 10) && isD ((digs t).headD 0) && !((digs t).headD 0 == 48 && !(t == [48]))
def digV (l : Bs) : Nat := l.foldl (fun a c => a * 10 + (c.toNat - 48)) 0
def numV (t : Bs) : Int := if t.headD 0 = 45 then -(digV (digs t) : Int) else digV (digs t)
def pNum (lo hi : Int) (l : List Tok) : Res Int :=
  if numOK (hd l) = true then (if lo ≤ numV (hd l) ∧ numV (hd l) ≤ hi then .ok (numV (hd l)) (stp l) else .bad (hdAt l) 5) else .bad (hdAt l) 2
def pPoint (lx ly : Int) (l : List Tok) : Res (Int × Int) :=
  (pNum lx 1073741824 l).on fun x l => (need [44] l).on fun _ l => (pNum ly 1073741824 l).on fun y l => .ok (x, y) l
def nameOK (t : Bs) : Bool := decide (1 ≤ t.length) && decide (t.length ≤ 16) && isL (t.headD 0) && t.all isW
def wAnd : Bs := [97, 110, 100]
def wOr : Bs := [111, 114]
/-- A region with kids alone. -/
def kidsR (k : Int) (l : List Reg) : Reg := .mk k [] 0 0 0 0 0 0 l
mutual
def pReg : Nat → List Tok → Res Reg
  | 0, l => .bad (hdAt l) 0
  | f + 1, l => (pItem f l).on fun r l => if hd l = wAnd ∨ hd l = wOr then pJoin f (hd l) [r] l else .ok r l
def pJoin : Nat → Bs → List Reg → List Tok → Res Reg
  | 0, _, _, l => .bad (hdAt l) 0
  | f + 1, op, acc, l => if hd l = op then (pItem f (stp l)).on fun r l => pJoin f op (acc ++ [r]) l else .ok (kidsR (if op = wOr then 5 else 4) acc) l
def pList : Nat → List Tok → Res (List Reg)
  | 0, l => .bad (hdAt l) 0
  | f + 1, l => (need [40] l).on fun _ l => if hd l = [41] then .ok [] (stp l) else (pReg f l).on fun r l => pMore f [r] l
def pMore : Nat → List Reg → List Tok → Res (List Reg)
  | 0, _, l => .bad (hdAt l) 0
  | f + 1, acc, l => if hd l = [44] then (pReg f (stp l)).on fun r l => pMore f (acc ++ [r]) l else (need [41] l).on fun _ l => .ok acc l
def pItem : Nat → List Tok → Res Reg
  | 0, l => .bad (hdAt l) 0
  | f + 1, l =>
    if hd l = [119, 104, 111, 108, 101] then .ok (kidsR 0 []) (stp l)
    else if hd l = [110, 97, 109, 101, 100] then
      (if isL ((hd (stp l)).headD 0) = false then .bad (hdAt (stp l)) 2 else if nameOK (hd (stp l)) = false then .bad (hdAt (stp l)) 6 else .ok (.mk 1 (hd (stp l)) 0 0 0 0 0 0 []) (stp (stp l)))
    else if hd l = [97, 116] then (pPoint (-1073741824) (-1073741824) (stp l)).on fun p l => .ok (.mk 2 [] p.1 p.2 0 0 0 0 []) l
    else if hd l = [119, 105, 116, 104, 105, 110] then (pPoint (-1073741824) (-1073741824) (stp l)).on fun p l => (need [116, 111] l).on fun _ l => (pPoint p.1 p.2 l).on fun q l => .ok (.mk 3 [] 0 0 p.1 p.2 q.1 q.2 []) l
    else if hd l = [110, 111, 116] then (pItem f (stp l)).on fun r l => .ok (kidsR 6 [r]) l
    else if hd l = [97, 108, 108] then (pList f (stp l)).on fun k l => .ok (kidsR 4 k) l
    else if hd l = [97, 110, 121] then (pList f (stp l)).on fun k l => .ok (kidsR 5 k) l
    else (need [40] l).on fun _ l => (pReg f l).on fun r l => (need [41] l).on fun _ l => .ok r l
end
/-- The offices of a coalition: those that were read, the tokens. -/
def pOff : Nat → List Int → List Tok → Res (List Int)
  | 0, _, l => .bad (hdAt l) 0
  | f + 1, acc, l => (pNum 0 63 l).on fun n l1 => if n ∈ acc then .bad (hdAt l) 8 else if acc.length = 8 then .bad (hdAt l) 4 else
      if hd l1 = [44] then pOff f (acc ++ [n]) (stp l1) else .ok (acc ++ [n]) l1
def pView (f : Nat) (l : List Tok) : Res (Int × List Int) :=
  if hd l = [99, 111, 110, 116, 114, 111, 108] then .ok (2, []) (stp l)
  else if hd l = [111, 102, 102, 105, 99, 101] then (pNum 0 63 (stp l)).on fun n l => .ok (0, [n]) l
  else (need [99, 111, 97, 108, 105, 116, 105, 111, 110] l).on fun _ l => (pOff f [] l).on fun o l => .ok (1, o) l
/-- A query. -/
structure Qry where
  kind : Int
  reg : Reg
  vkind : Int
  offs : List Int
  day : Int
  scale : Int
def Qry.none : Qry := ⟨0, kidsR 0 [], 0, [], 0, 0⟩
def pQuery (f : Nat) (l : List Tok) : Res Qry :=
  (need [99, 111, 117, 110, 116] l).on fun _ l => (pNum 0 255 l).on fun k l => (need [111, 102] l).on fun _ l => (pReg f l).on fun r l => (need [105, 110] l).on fun _ l =>
  (pView f l).on fun v l => (need [111, 110] l).on fun _ l => (pNum 0 73048 l).on fun d l => (need [97, 116] l).on fun _ l => (pNum 0 23 l).on fun s l => (need [] l).on fun _ l => .ok ⟨k, r, v.1, v.2, d, s⟩ l
mutual
def nodes : Reg → Nat
  | .mk _ _ _ _ _ _ _ _ l => nodesL l + 1
def nodesL : List Reg → Nat
  | [] => 0
  | r :: l => nodes r + nodesL l
end
mutual
def nest : Reg → Nat
  | .mk _ _ _ _ _ _ _ _ l => nestL l + 1
def nestL : List Reg → Nat
  | [] => 0
  | r :: l => max (nest r) (nestL l)
end
/-- Fuel that is enough for 5000 tokens. -/
def FU : Nat := 15010
/-- What Parse gives: a query, an offset, an error. -/
def parse (s : Bs) : Qry × Nat × Int :=
  if 4096 < s.length then (Qry.none, 4096, 4) else
  match pQuery FU (toks s 0) with
  | .bad x e => (Qry.none, x, e)
  | .ok q _ => if 256 < nodes q.reg ∨ 16 < nest q.reg then (Qry.none, s.length, 4) else (q, 0, 0)
end Qy
