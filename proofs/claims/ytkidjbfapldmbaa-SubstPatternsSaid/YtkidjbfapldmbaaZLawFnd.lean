import Derived.Test.YtkidjbfapldmbaaZPf
import Derived.Test.YtkidjbfapldmbaaZQf
import Derived.Deep.DeepCutAuto
set_option linter.unusedVariables false
set_option linter.unusedSimpArgs false
