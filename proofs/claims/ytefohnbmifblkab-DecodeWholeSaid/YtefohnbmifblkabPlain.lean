/- The plain functions: what the program's packages auto and decode compute, on integers and lists. No program in sight. -/
namespace Go.Proofs.Ytefohnbmifblkab

/-! ## Package auto -/

def utfF (s b : Int) : Int :=
  if s = 0 then
    if b < 128 then 0 else if b < 194 then 9 else if b ≤ 223 then 1 else if b = 224 then 4 else if b = 237 then 5 else if b ≤ 239 then 2
    else if b = 240 then 6 else if b ≤ 243 then 3 else if b = 244 then 7 else 9
  else if 1 ≤ s ∧ s ≤ 3 then if 128 ≤ b ∧ b ≤ 191 then s - 1 else 9
  else if s = 4 then if 160 ≤ b ∧ b ≤ 191 then 1 else 9
  else if s = 5 then if 128 ≤ b ∧ b ≤ 159 then 1 else 9
  else if s = 6 then if 144 ≤ b ∧ b ≤ 191 then 2 else 9
  else if s = 7 then if 128 ≤ b ∧ b ≤ 143 then 2 else 9
  else 9

def shiftF (s b : Int) : Int :=
  if s = 0 then if b = 27 then 2 else if b < 128 ∧ b ≠ 14 ∧ b ≠ 15 then 0 else 9
  else if s = 1 then if b = 27 then 5 else if b = 10 then 0 else if 33 ≤ b ∧ b ≤ 126 then 8 else 9
  else if s = 2 ∨ s = 5 then if b = 40 then s + 1 else if b = 36 then s + 2 else 9
  else if s = 3 ∨ s = 6 then if b = 66 then 0 else 9
  else if s = 4 ∨ s = 7 then if b = 66 then 1 else 9
  else if s = 8 then if 33 ≤ b ∧ b ≤ 126 then 1 else 9
  else 9

def twinF (s b : Int) : Int :=
  if s = 0 then if b < 128 then 0 else if 129 ≤ b ∧ b ≤ 159 then 1 else if 161 ≤ b ∧ b ≤ 223 then 0 else 9
  else if s = 1 then if 64 ≤ b ∧ b ≤ 126 then 0 else if 128 ≤ b ∧ b ≤ 252 then 0 else 9
  else 9

def latinF (b : Int) : Int := if b = 129 ∨ b = 141 ∨ b = 143 ∨ b = 144 ∨ b = 157 then 9 else 0

def lowF (s b : Int) : Int :=
  if s = 0 then 1 else if s = 2 then 3
  else if s = 1 then if 216 ≤ b ∧ b ≤ 219 then 2 else if 220 ≤ b ∧ b ≤ 223 then 9 else 0
  else if s = 3 then if 220 ≤ b ∧ b ≤ 223 then 0 else 9
  else 9

def highF (s b : Int) : Int :=
  if s = 0 then if 216 ≤ b ∧ b ≤ 219 then 2 else if 220 ≤ b ∧ b ≤ 223 then 9 else 1
  else if s = 1 ∨ s = 4 then 0
  else if s = 2 then 3
  else if s = 3 then if 220 ≤ b ∧ b ≤ 223 then 4 else 9
  else 9

def autoF (e s b : Int) : Int :=
  if s < 0 ∨ 9 ≤ s ∨ b < 0 ∨ 255 < b then 9
  else if e = 1 then utfF s b
  else if e = 2 then shiftF s b
  else if e = 3 then twinF s b
  else if e = 4 then if s = 0 then latinF b else 9
  else if e = 5 then lowF s b
  else if e = 6 then highF s b
  else 9

def endsF (e s : Int) : Bool := decide (s = 0) || (decide (e = 2) && decide (s = 1))

def autoAll (e : Int) (s : Int) (l : List Int) : Int := l.foldl (autoF e) s

def acceptsF (e : Int) (l : List Int) : Bool := decide (1 ≤ e) && decide (e ≤ 6) && endsF e (autoAll e 0 l)

/-! ## Package decode -/

structure St where
  need : Int := 0
  code : Int := 0
  frm : Int := 0
  upto : Int := 0
  kept : List Int := []
  half : Int := 0
  mode : Int := 0
deriving DecidableEq

def utfS (s : St) (b : Int) : St × List Int × Bool :=
  if s.need = 0 then
    if b < 128 then (s, [b], false)
    else if b < 194 then (s, [-1], false)
    else if b ≤ 223 then ({ need := 1, code := b % 32, frm := 128, upto := 191 }, [], false)
    else if b ≤ 239 then ({ need := 2, code := b % 16, frm := if b = 224 then 160 else 128, upto := if b = 237 then 159 else 191 }, [], false)
    else if b ≤ 244 then ({ need := 3, code := b % 8, frm := if b = 240 then 144 else 128, upto := if b = 244 then 143 else 191 }, [], false)
    else (s, [-1], false)
  else if b < s.frm ∨ s.upto < b then ({}, [-1], true)
  else if s.need = 1 then ({}, [s.code * 64 + b % 64], false)
  else ({ need := s.need - 1, code := s.code * 64 + b % 64, frm := 128, upto := 191 }, [], false)

def twinS (s : St) (b : Int) : St × List Int × Bool :=
  match s.kept with
  | [] =>
    if b < 128 then (s, [b], false)
    else if 129 ≤ b ∧ b ≤ 159 then ({ s with kept := [b] }, [], false)
    else if 161 ≤ b ∧ b ≤ 223 then (s, [65377 + b - 161], false)
    else (s, [-1], false)
  | x :: _ =>
    if 64 ≤ b ∧ b ≤ 126 then ({ s with kept := [] }, [19968 + (x - 129) * 188 + b - 64], false)
    else if 128 ≤ b ∧ b ≤ 252 then ({ s with kept := [] }, [19968 + (x - 129) * 188 + b - 65], false)
    else ({ s with kept := [] }, [-1], decide (b < 128))

def latinS (b : Int) : Int :=
  if b = 129 ∨ b = 141 ∨ b = 143 ∨ b = 144 ∨ b = 157 then -1 else if 128 ≤ b ∧ b < 160 then 8192 + b else b

def shiftS (s : St) (b : Int) : St × List Int × Bool :=
  match s.kept with
  | [] =>
    if b = 27 then ({ s with kept := [27] }, [], false)
    else if s.mode = 0 then (s, [if 128 ≤ b ∨ b = 14 ∨ b = 15 then -1 else b], false)
    else if b = 10 then ({}, [10], false)
    else if b < 33 ∨ 126 < b then (s, [-1], false)
    else ({ s with kept := [b] }, [], false)
  | [x] =>
    if x = 27 then
      if b = 40 ∨ b = 36 then ({ s with kept := [27, b] }, [], false)
      else ({ s with kept := [] }, [-1], true)
    else if b = 27 then ({ s with kept := [27] }, [-1], false)
    else if b < 33 ∨ 126 < b then ({ s with kept := [] }, [-1], false)
    else ({ s with kept := [] }, [12288 + (x - 33) * 94 + b - 33], false)
  | _ :: y :: _ =>
    if b = 66 then (if y = 40 then ({}, [], false) else ({ mode := 1 }, [], false))
    else if s.mode = 0 then ({ s with kept := [] }, [-1, y], true)
    else ({ s with kept := [y] }, [-1], true)

def pairsS (s : St) (b : Int) (low : Bool) : St × List Int × Bool :=
  match s.kept with
  | [] => ({ s with kept := [b] }, [], false)
  | x :: _ =>
    let u := if low then b * 256 + x else x * 256 + b
    let t : St := { s with kept := [], half := 0 }
    if s.half ≠ 0 ∧ 56320 ≤ u ∧ u ≤ 57343 then (t, [65536 + (s.half - 55296) * 1024 + u - 56320], false)
    else
      let pre : List Int := if s.half ≠ 0 then [-1] else []
      if 55296 ≤ u ∧ u ≤ 56319 then ({ t with half := u }, pre, false)
      else if 56320 ≤ u ∧ u ≤ 57343 then (t, pre ++ [-1], false)
      else (t, pre ++ [u], false)

def oneS (e : Int) (s : St) (b : Int) : St × List Int × Bool :=
  if e = 1 then utfS s b else if e = 2 then shiftS s b else if e = 3 then twinS s b else if e = 4 then (s, [latinS b], false)
  else pairsS s b (decide (e = 5))

/-- At most k rounds of one byte. -/
def rounds (e b : Int) : Nat → St → List Int → St × List Int
  | 0, s, all => (s, all)
  | k + 1, s, all =>
    let r := oneS e s b
    if r.2.2 then rounds e b k r.1 (all ++ r.2.1) else (r.1, all ++ r.2.1)

def stepS (e : Int) (s : St) (b : Int) : St × List Int := rounds e b 3 s []

def byte (x : Int) : Prop := 0 ≤ x ∧ x ≤ 255
instance (x : Int) : Decidable (byte x) := by unfold byte; infer_instance

/-- Which states are good. -/
def goodUtf (s : St) : Bool :=
  decide (s.kept = []) && (decide (s = {}) || (decide (1 ≤ s.need) && decide (s.need ≤ 3) && decide (0 ≤ s.code)
    && decide (s.code < (if s.need = 1 then 32768 else if s.need = 2 then 512 else 8)) && decide (128 ≤ s.frm) && decide (s.upto ≤ 191)))
def quiet (s : St) : Bool := decide (s.need = 0) && decide (s.code = 0) && decide (s.frm = 0) && decide (s.upto = 0)
def goodShift (s : St) : Bool :=
  quiet s && (decide (s.kept = []) || decide (s.kept = [27]) || decide (s.kept = [27, 40]) || decide (s.kept = [27, 36])
    || (decide (s.mode = 1) && decide (s.kept.length = 1) && decide (33 ≤ s.kept.headD 0) && decide (s.kept.headD 0 ≤ 126)))
def goodTwin (s : St) : Bool :=
  quiet s && (decide (s.kept = []) || (decide (s.kept.length = 1) && decide (129 ≤ s.kept.headD 0) && decide (s.kept.headD 0 ≤ 159)))
def goodPairs (s : St) : Bool := quiet s && decide (s.kept.length ≤ 1)
def strays (e : Int) (s : St) : Bool :=
  (decide (s.mode ≠ 0) && (decide (e ≠ 2) || decide (s.mode ≠ 1))) || (decide (s.half ≠ 0) && (decide (e < 5) || decide (s.half < 55296) || decide (56319 < s.half)))
def goodS (e : Int) (s : St) : Bool :=
  !strays e s && (if e = 1 then goodUtf s else if e = 2 then goodShift s else if e = 3 then goodTwin s else if e = 4 then decide (s = {})
    else if e = 5 ∨ e = 6 then goodPairs s else false)

def endS (s : St) : List Int :=
  (if 0 < s.need ∨ s.half ≠ 0 ∨ s.kept ≠ [] then [-1] else []) ++
    (match s.kept with
    | [_, y] => [if s.mode = 0 then y else -1]
    | _ => [])

def feedS (e : Int) (s : St) (l : List Int) : St × List Int := l.foldl (fun p b => ((stepS e p.1 b).1, p.2 ++ (stepS e p.1 b).2)) (s, [])

def wholeS (e : Int) (l : List Int) : List Int := (feedS e {} l).2 ++ endS (feedS e {} l).1

end Go.Proofs.Ytefohnbmifblkab
