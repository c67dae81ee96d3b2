/- What stands ahead of a document: what a reader of it comes to, step by step: plain functions over the bytes that are left. No program here. -/
import Derived.Test.YtmjdjpelhhibgaaDoorKSpec
import Derived.Lib.IndexMore
import Derived.Lib.Fold
import Derived.Lib.RuneBytes
namespace Go.Proofs.YtmjdjpelhhibgaaDoor.DS
open Go Go.Proofs.YtmjdjpelhhibgaaDoor.Spec
set_option linter.unusedVariables false
set_option linter.unusedSimpArgs false
/-- A reader: what is left of its text; is it not what it must be? -/
structure St where
  r : List UInt8
  bad : Bool
def bs (l : List UInt8) : ByteArray := ⟨l.toArray⟩
def has (m : List UInt8) (x : St) : Bool := !x.bad && m.isPrefixOf x.r
def hasX (m : List UInt8) (x : St) : St := if has m x = true then ⟨x.r.drop m.length, x.bad⟩ else x
def mustX (m : List UInt8) (x : St) : St := if has m x = true then ⟨x.r.drop m.length, x.bad⟩ else ⟨x.r, true⟩
def space (x : St) : Bool := !x.bad && decide (0 < spaceLen x.r)
def spaceX (x : St) : St := if x.bad = true then x else ⟨x.r.drop (spaceLen x.r), x.bad⟩
def gapX (x : St) : St := if space x = true then spaceX x else ⟨(spaceX x).r, true⟩
def wl (r : List UInt8) : Nat := wordLen (bs r)
def word (x : St) : List UInt8 := if x.bad = true then [] else x.r.take (wl x.r)
def wordX (good : List UInt8 → Bool) (x : St) : St := ⟨if x.bad = true then x.r else x.r.drop (wl x.r), x.bad || !good (word x)⟩
/-- What stands in quotes. -/
def lit : List UInt8 → Option (List UInt8)
  | [] => none
  | c :: t => if (c == 34 || c == 39) = true then (if (Lib.cut t [c]).2.2 = true then some (Lib.cut t [c]).1 else none) else none
def litS (x : St) : List UInt8 := (lit x.r).getD []
def litX (x : St) : St := match lit x.r with
  | some t => if x.bad = true then x else ⟨x.r.drop (t.length + 2), x.bad⟩
  | none => ⟨x.r, true⟩
def eqX (x : St) : St := spaceX (mustX [61] (spaceX x))
def verB (v : List UInt8) : Bool := Lib.hasPrefix v [49, 46] && (!(v.drop 2).isEmpty && (v.drop 2).all fun c => decide (48 ≤ c.toNat ∧ c.toNat ≤ 57))
def failIf (b : Bool) (x : St) : St := ⟨x.r, x.bad || b⟩
def xmlM : List UInt8 := [60, 63, 120, 109, 108]
def versionM : List UInt8 := [118, 101, 114, 115, 105, 111, 110]
def encodingM : List UInt8 := [101, 110, 99, 111, 100, 105, 110, 103]
def standaloneM : List UInt8 := [115, 116, 97, 110, 100, 97, 108, 111, 110, 101]
def utf8M : List UInt8 := [117, 116, 102, 45, 56]
def yesM : List UInt8 := [121, 101, 115]
def noM : List UInt8 := [110, 111]
/-- The reader behind a version, an encoding, a word that stands alone. -/
def xml1 (x : St) : St := let y := eqX (mustX versionM x); failIf (!verB (litS y)) (litX y)
def xmlEnc (x : St) : St := let y := eqX x; failIf (!Lib.equalFold (litS y) utf8M) (litX y)
def xmlSta (x : St) : St := let y := eqX x; failIf (!(litS y == yesM) && !(litS y == noM)) (litX y)
def xml2 (g : Bool) (x : St) : Bool × St := if (g && has encodingM x) = true then (let y := xmlEnc (hasX encodingM x); (space y, spaceX y)) else (g, x)
def xml3 (g : Bool) (x : St) : St := if (g && has standaloneM x) = true then spaceX (xmlSta (hasX standaloneM x)) else x
def xmlEnd (x : St) : St := let y := xml1 x; let z := xml2 (space y) (spaceX y); mustX [63, 62] (xml3 z.1 z.2)
/-- Where an XML declaration ends. -/
def xml (s : List UInt8) : Int × Int :=
  let x : St := hasX xmlM ⟨s, false⟩
  if (has xmlM ⟨s, false⟩ && space x) = true then (let z := xmlEnd (spaceX x); if z.bad = true then (0, 2) else ((s.length : Int) - (z.r.length : Int), 0)) else (0, 0)
/-! ### an entity's text -/
def entR : Nat → List UInt8 → Option (List UInt8)
  | 0, _ => none
  | _ + 1, [] => some []
  | b + 1, c :: t => if (c == 37) = true then none else if (c == 38) = true then
      (let q := Lib.cut t [59]; let ref := bs ([38] ++ q.1 ++ [59])
       if (!q.2.2 || (!(charRefV ref).2 && !ncB (bs q.1))) = true then none
       else (entR b q.2.1).map fun z => (if (charRefV ref).2 = true then Lib.encodeRune (charRefV ref).1 else [38] ++ q.1 ++ [59]) ++ z)
    else (entR b t).map fun z => c :: z
def entO : Option (List UInt8) → List UInt8 × Bool
  | some t => (t, true)
  | none => ([], false)
def ent (s : List UInt8) : List UInt8 × Bool := entO (entR (s.length + 1) s)
/-! ### what is declared -/
structure Ent where
  nm : List UInt8
  vl : List UInt8
  ext : Bool
structure Att where
  el : List UInt8
  nm : List UInt8
  ty : Int
  has : Bool
  vl : List UInt8
def systemM : List UInt8 := [83, 89, 83, 84, 69, 77]
def publicM : List UInt8 := [80, 85, 66, 76, 73, 67]
def ndataM : List UInt8 := [78, 68, 65, 84, 65]
def external (x : St) : Bool := has systemM x || has publicM x
def externalX (x : St) : St := if has systemM x = true then litX (gapX (hasX systemM x)) else if has publicM x = true then litX (gapX (litX (gapX (hasX publicM x)))) else x
def ncL (l : List UInt8) : Bool := ncB (bs l)
def splitL (l : List UInt8) : Bool := (splitB (bs l)).2.2
def partL (l : List UInt8) : Bool := !l.isEmpty
/-- A reader ahead of an entity's value. -/
def entA (x : St) : St := gapX (wordX ncL (gapX x))
def entNm (x : St) : List UInt8 := word (gapX x)
def entX (x : St) : Ent × St :=
  let y := entA x
  if external y = true then
    (let z := externalX y
     (⟨entNm x, [], true⟩, mustX [62] (if (space z && has ndataM (spaceX z)) = true then spaceX (wordX ncL (gapX (hasX ndataM (spaceX z)))) else spaceX z)))
  else (⟨entNm x, (ent (litS y)).1, false⟩, mustX [62] (spaceX (failIf (!(ent (litS y)).2) (litX y))))
def addEnt (es : List Ent) (e : Ent) : List Ent := if (es.any fun z => z.nm == e.nm) = true then es else es ++ [e]
def addAtt (al : List Att) (a : Att) : List Att := if (al.any fun z => z.el == a.el && z.nm == a.nm) = true then al else al ++ [a]
/-- A list of words: behind the sign that begins it. -/
def listR : Nat → St → St
  | 0, x => x
  | b + 1, x => if x.bad = true then x else
      let y := spaceX (wordX partL (spaceX x))
      if has [124] y = true then listR b (hasX [124] y) else y
def listX (x : St) : St := let y := mustX [40] x; mustX [41] (listR (y.r.length + 2) y)
def cdataM : List UInt8 := [67, 68, 65, 84, 65]
def toks : List (List UInt8) := [[73, 68], [73, 68, 82, 69, 70], [73, 68, 82, 69, 70, 83], [69, 78, 84, 73, 84, 89], [69, 78, 84, 73, 84, 73, 69, 83], [78, 77, 84, 79, 75, 69, 78], [78, 77, 84, 79, 75, 69, 78, 83]]
def notationM : List UInt8 := [78, 79, 84, 65, 84, 73, 79, 78]
def kind (x : St) : Int := if (!x.bad && [40].isPrefixOf x.r) = true then 2 else if (word x == cdataM) = true then 1 else 2
def kindX (x : St) : St := if (!x.bad && [40].isPrefixOf x.r) = true then listX x else
  let y := wordX partL x
  if (word x == cdataM) = true then y else if (toks.any fun t => word x == t) = true then y
  else if (word x == notationM) = true then listX (gapX y) else ⟨y.r, true⟩
def requiredM : List UInt8 := [35, 82, 69, 81, 85, 73, 82, 69, 68]
def impliedM : List UInt8 := [35, 73, 77, 80, 76, 73, 69, 68]
def fixedM : List UInt8 := [35, 70, 73, 88, 69, 68]
/-- A default: does it stand, what is it? -/
def valNone (x : St) : Bool := has requiredM x || has impliedM x
def valY (x : St) : St := if has fixedM x = true then gapX (hasX fixedM x) else x
def valX (x : St) : St := if has requiredM x = true then hasX requiredM x else if has impliedM x = true then hasX impliedM x
  else failIf (Lib.contains (litS (valY x)) [60]) (litX (valY x))
def valS (x : St) : Bool × List UInt8 := if valNone x = true then (false, []) else (true, litS (valY x))
/-- One attribute that is declared, behind the gap: what it is; the reader. -/
def attX (el : List UInt8) (x : St) : Att × St :=
  let y := gapX (wordX splitL x)
  let z := gapX (kindX y)
  (⟨el, word x, kind y, (valS z).1, (valS z).2⟩, valX z)
def attsR (el : List UInt8) : Nat → St → List Att → St × List Att
  | 0, x, al => (x, al)
  | b + 1, x, al => if x.bad = true then (x, al) else
      let y := spaceX x
      if has [62] y = true then (hasX [62] y, al) else
      let p := attX el (failIf (!space x) y)
      attsR el b p.2 (addAtt al p.1)
def attsX (x : St) (al : List Att) : St × List Att :=
  let y := gapX x
  let z := wordX splitL y
  attsR (word y) (z.r.length + 2) z al
/-! ### the parts between the signs: no comment, no instruction, no declaration that says nothing here: of those this tells nothing -/
def entityM : List UInt8 := [60, 33, 69, 78, 84, 73, 84, 89]
def attlistM : List UInt8 := [60, 33, 65, 84, 84, 76, 73, 83, 84]
def elementM : List UInt8 := [60, 33, 69, 76, 69, 77, 69, 78, 84]
def notnM : List UInt8 := [60, 33, 78, 79, 84, 65, 84, 73, 79, 78]
def pctM : List UInt8 := [37, 101, 59, 93, 62]
def subR : Nat → St → List Ent → List Att → Option (St × List Ent × List Att)
  | 0, _, _, _ => none
  | b + 1, x, es, al => if x.bad = true then some (x, es, al) else
      let y := spaceX x
      if has [93] y = true then some (hasX [93] y, es, al)
      else if has entityM y = true then subR b (entX (hasX entityM y)).2 (addEnt es (entX (hasX entityM y)).1) al
      else if has attlistM y = true then subR b (attsX (hasX attlistM y) al).1 es (attsX (hasX attlistM y) al).2
      else if (has elementM y || has notnM y) = true then none
      else if (y.r == pctM) = true then subR b ⟨y.r, true⟩ es al else none
def doctypeM : List UInt8 := [60, 33, 68, 79, 67, 84, 89, 80, 69]
/-- What a document type declares, where it ends, a code. -/
structure DocR where
  nm : List UInt8
  es : List Ent
  al : List Att
  to : Int
  code : Int
def doc1 (x : St) : St := if (space x && external (spaceX x)) = true then spaceX (externalX (spaceX x)) else spaceX x
def doc2 (u : St) : Option (St × List Ent × List Att) := if has [91] u = true then (subR (u.r.length + 3) (hasX [91] u) [] []).map fun t => (spaceX t.1, t.2) else some (u, [], [])
def doc3 (n : Nat) (nm : List UInt8) (t : St × List Ent × List Att) : DocR :=
  if (mustX [62] t.1).bad = true then ⟨[], [], [], 0, 2⟩ else ⟨nm, t.2.1, t.2.2, (n : Int) - ((mustX [62] t.1).r.length : Int), 0⟩
def doc (s : List UInt8) : Option DocR :=
  if doctypeM.isPrefixOf s = true then
    (let x := gapX ⟨s.drop 9, false⟩
     (doc2 (doc1 (wordX splitL x))).map (doc3 s.length (word x)))
  else some ⟨[], [], [], 0, 6⟩
end Go.Proofs.YtmjdjpelhhibgaaDoor.DS
